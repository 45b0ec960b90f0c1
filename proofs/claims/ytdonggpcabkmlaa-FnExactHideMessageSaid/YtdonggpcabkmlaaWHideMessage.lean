/-
  The walk through FnExactHideMessage, call by call. Printed by a program of this claim's own. No conditions beyond the bounds of Go's slices.
-/
import Derived.Test.YtdonggpcabkmlaaLawKit
import Derived.Test.YtdonggpcabkmlaaHideM
import Derived.Test.YtdonggpcabkmlaaMarkP
namespace Go.Proofs.Ytdonggpcabkmlaa.fnExactHideMessage
open Go.ChangeShapes Go.WideShapes Go.ChangeAt Go.RowKit
set_option linter.unusedVariables false

set_option maxRecDepth 100000 in
set_option maxHeartbeats 4000000 in
theorem walk (a0_0 : Int) (a0_1 : Int) (a0_2 : List Int) (Aa0_2 : Option Addr) (ca0_2 : Nat) (a1_0 : List Int) (Aa1_0 : Option Addr) (ca1_0 : Nat) (w : World) (h0_0 : Rd w 0 w.heap.size Aa0_2 a0_2) (l0_0 : a0_2.length ≤ 9223372036854775807) (h1_0 : Rd w 0 w.heap.size Aa1_0 a1_0) (l1_0 : a1_0.length ≤ 9223372036854775807) :
    Calls Try.prog 10 #[.agg #[.int .i64 a0_0, .int .i64 a0_1, .slice Aa0_2 a0_2.length ca0_2], .slice Aa1_0 a1_0.length ca1_0] w fun e w' => e = .returned (.bool true) ∧ Below w.heap.size w w' := by
  by_cases z0 : a1_0.length ≤ 1048576
  · skip
    by_cases z1 : a0_2.length ≤ 1048576
    · skip
      go_enter Try.func10, Try.ntmps10
      go_wp2_with fail
      ((with_reducible refine (szKeyBook_yes a0_0 a0_1 a0_2 Aa0_2 ca0_2 1048576 _ (by omega) l0_0 (by omega)).mono ?_); rintro e w1 ⟨rfl, hb1⟩)
      have s1 : w.heap.size + 1 ≤ w1.heap.size := by have := hb1.size; simpa using this
      have B1 : Below w.heap.size w w1 := (((Below.refl w.heap.size w)).alloc (by first | omega | (simp <;> omega)) _).trans (hb1.mono (by first | omega | (simp <;> omega)))
      have k1_0 := (Bk.new w _ _).st hb1
      have xk1_0 := k1_0.lt
      have ck1_0_0 := k1_0.cell 0
      simp at ck1_0_0
      have ck1_0_1 := k1_0.cell 1
      simp at ck1_0_1
      have ck1_0_2 := k1_0.cell 2
      simp at ck1_0_2
      go_wp2_with fail
      ((with_reducible refine (toKeyBook_any a0_0 a0_1 a0_2 Aa0_2 ca0_2 _ ((h0_0.below B1 (Nat.le_refl _))) (by omega)).mono ?_); rintro e w2 ⟨A2_0, c2_0, rfl, o2_0, hb2⟩)
      have s2 : w1.heap.size ≤ w2.heap.size := by have := hb2.size; simpa using this
      have B2 : Below w.heap.size w w2 := (B1).trans (hb2.mono (by first | omega | (simp <;> omega)))
      have k1_0v2 := (k1_0).st hb2
      clear k1_0 xk1_0 ck1_0_0 ck1_0_1 ck1_0_2
      have xk1_0v2 := k1_0v2.lt
      have ck1_0v2_0 := k1_0v2.cell 0
      simp at ck1_0v2_0
      have ck1_0v2_1 := k1_0v2.cell 1
      simp at ck1_0v2_1
      have ck1_0v2_2 := k1_0v2.cell 2
      simp at ck1_0v2_2
      go_wp2_with fail
      ((with_reducible refine (toIntS_b a1_0 Aa1_0 ca1_0 _ ((h1_0.below B2 (Nat.le_refl _))) (by omega)).mono ?_); rintro e w3 ⟨A3_0, c3_0, rfl, o3_0, hb3⟩)
      have s3 : w2.heap.size ≤ w3.heap.size := by have := hb3.size; simpa using this
      have B3 : Below w.heap.size w w3 := (B2).trans (hb3.mono (by first | omega | (simp <;> omega)))
      have k1_0v3 := (k1_0v2).st hb3
      have o2_0v3 := (o2_0).st hb3
      clear k1_0v2 o2_0 xk1_0v2 ck1_0v2_0 ck1_0v2_1 ck1_0v2_2
      have xk1_0v3 := k1_0v3.lt
      have ck1_0v3_0 := k1_0v3.cell 0
      simp at ck1_0v3_0
      have ck1_0v3_1 := k1_0v3.cell 1
      simp at ck1_0v3_1
      have ck1_0v3_2 := k1_0v3.cell 2
      simp at ck1_0v3_2
      go_wp2_with fail
      ((with_reducible refine (sHideMessage_any a0_0 a0_1 a0_2 A2_0 c2_0 a1_0 A3_0 c3_0 _ ((o2_0v3).rd') ((o3_0).rd') (by omega) (by omega) (o3_0).len.2).mono ?_); rintro e w4 ⟨A4_0_0, c4_0_0, A4_1_0, c4_1_0, A4_1_1, c4_1_1, rfl, o4_0_0, o4_1_0, o4_1_1, l4_0, l4_1, l4_2, hb4⟩)
      have s4 : w3.heap.size ≤ w4.heap.size := by have := hb4.size; simpa using this
      have B4 : Below w.heap.size w w4 := (B3).trans (hb4.mono (by first | omega | (simp <;> omega)))
      have k1_0v4 := (k1_0v3).st hb4
      have o2_0v4 := (o2_0v3).st hb4
      have o3_0v4 := (o3_0).st hb4
      clear k1_0v3 o2_0v3 o3_0 xk1_0v3 ck1_0v3_0 ck1_0v3_1 ck1_0v3_2
      have xk1_0v4 := k1_0v4.lt
      have ck1_0v4_0 := k1_0v4.cell 0
      simp at ck1_0v4_0
      have ck1_0v4_1 := k1_0v4.cell 1
      simp at ck1_0v4_1
      have ck1_0v4_2 := k1_0v4.cell 2
      simp at ck1_0v4_2
      go_wp2_with fail
      ((with_reducible refine (toKeyBook_any a0_0 a0_1 a0_2 Aa0_2 ca0_2 _ ((((h0_0.below B4 (Nat.le_refl _))).alloc _).alloc _) (by omega)).mono ?_); rintro e w5 ⟨A5_0, c5_0, rfl, o5_0, hb5⟩)
      have s5 : w4.heap.size + 2 ≤ w5.heap.size := by have := hb5.size; simpa using this
      have B5 : Below w.heap.size w w5 := (((B4).alloc (by first | omega | (simp <;> omega)) _).alloc (by first | omega | (simp <;> omega)) _).trans (hb5.mono (by first | omega | (simp <;> omega)))
      have k1_0v5 := (((k1_0v4).alloc _).alloc _).st hb5
      have o4_0_0v5 := (((o4_0_0).alloc _).alloc _).st hb5
      have k5_0 := ((Bk.new w4 _ _).alloc _).st hb5
      have o4_1_0v5 := (((o4_1_0).alloc _).alloc _).st hb5
      have o4_1_1v5 := (((o4_1_1).alloc _).alloc _).st hb5
      have k5_1 := (Bk.new2 w4 _ _ _).st hb5
      clear k1_0v4 o4_0_0 o4_1_0 o4_1_1 xk1_0v4 ck1_0v4_0 ck1_0v4_1 ck1_0v4_2
      go_wp2_with fail
      ((with_reducible refine (toIntS_b a1_0 Aa1_0 ca1_0 _ (((h1_0.below B5 (Nat.le_refl _))).alloc _) (by omega)).mono ?_); rintro e w6 ⟨A6_0, c6_0, rfl, o6_0, hb6⟩)
      have s6 : w5.heap.size + 1 ≤ w6.heap.size := by have := hb6.size; simpa using this
      have B6 : Below w.heap.size w w6 := ((B5).alloc (by first | omega | (simp <;> omega)) _).trans (hb6.mono (by first | omega | (simp <;> omega)))
      have k1_0v6 := ((k1_0v5).alloc _).st hb6
      have o4_0_0v6 := ((o4_0_0v5).alloc _).st hb6
      have k5_0v6 := ((k5_0).alloc _).st hb6
      have o4_1_0v6 := ((o4_1_0v5).alloc _).st hb6
      have o4_1_1v6 := ((o4_1_1v5).alloc _).st hb6
      have k5_1v6 := ((k5_1).alloc _).st hb6
      have o5_0v6 := ((o5_0).alloc _).st hb6
      have k6_0 := (Bk.new w5 _ _).st hb6
      clear k1_0v5 o4_0_0v5 k5_0 o4_1_0v5 o4_1_1v5 k5_1 o5_0
      have xk6_0 := k6_0.lt
      have ck6_0_0 := k6_0.cell 0
      simp at ck6_0_0
      have ck6_0_1 := k6_0.cell 1
      simp at ck6_0_1
      have ck6_0_2 := k6_0.cell 2
      simp at ck6_0_2
      go_wp2_with fail
      ((with_reducible refine (iHideMessage_any a0_0 a0_1 a0_2 A5_0 c5_0 a1_0 A6_0 c6_0 _ ((o5_0v6).rd') ((o6_0).rd') (by omega) (by omega) ).mono ?_); rintro e w7 ⟨A7_0_0, c7_0_0, A7_1_0, c7_1_0, A7_1_1, c7_1_1, il7_0, ir7_0, il7_1, ir7_1, il7_2, ir7_2, rfl, o7_0_0, o7_1_0, o7_1_1, ⟨ib7_0, ib7_1, ib7_2, ib7_3, ib7_4, ib7_5, ib7_6, ib7_7, ib7_8⟩, l7_0, l7_1, l7_2, hb7⟩)
      have s7 : w6.heap.size ≤ w7.heap.size := by have := hb7.size; simpa using this
      have B7 : Below w.heap.size w w7 := (B6).trans (hb7.mono (by first | omega | (simp <;> omega)))
      have k1_0v7 := (k1_0v6).st hb7
      have o4_0_0v7 := (o4_0_0v6).st hb7
      have k5_0v7 := (k5_0v6).st hb7
      have o4_1_0v7 := (o4_1_0v6).st hb7
      have o4_1_1v7 := (o4_1_1v6).st hb7
      have k5_1v7 := (k5_1v6).st hb7
      have o5_0v7 := (o5_0v6).st hb7
      have k6_0v7 := (k6_0).st hb7
      have o6_0v7 := (o6_0).st hb7
      clear k1_0v6 o4_0_0v6 k5_0v6 o4_1_0v6 o4_1_1v6 k5_1v6 o5_0v6 k6_0 o6_0 xk6_0 ck6_0_0 ck6_0_1 ck6_0_2
      have jb7_0 : w6.heap.size ≤ il7_0 := by simpa using ib7_0
      have jb7_1 : w6.heap.size ≤ il7_1 := by simpa using ib7_2
      have jb7_2 : w6.heap.size ≤ il7_2 := by simpa using ib7_4
      have hq0 := eqKb_self (hmK a0_0 a0_1 a0_2 a1_0) (hmG a0_0 a0_1 a0_2 a1_0) (hmL a0_0 a0_1 a0_2 a1_0)
      have hq1 := eqSe_self (hmP a0_0 a0_1 a0_2 a1_0) (hmS a0_0 a0_1 a0_2 a1_0)
      have xk5_0v7 := k5_0v7.lt
      have ck5_0v7_0 := k5_0v7.cell 0
      simp at ck5_0v7_0
      have ck5_0v7_1 := k5_0v7.cell 1
      simp at ck5_0v7_1
      have ck5_0v7_2 := k5_0v7.cell 2
      simp at ck5_0v7_2
      have xk5_1v7 := k5_1v7.lt
      have ck5_1v7_0 := k5_1v7.cell 0
      simp at ck5_1v7_0
      have ck5_1v7_1 := k5_1v7.cell 1
      simp at ck5_1v7_1
      go_wp2_with fail
      ((with_reducible refine (eqKeyBook_b (hmK a0_0 a0_1 a0_2 a1_0) (hmG a0_0 a0_1 a0_2 a1_0) (hmL a0_0 a0_1 a0_2 a1_0) A7_0_0 c7_0_0 (hmK a0_0 a0_1 a0_2 a1_0) (hmG a0_0 a0_1 a0_2 a1_0) (hmL a0_0 a0_1 a0_2 a1_0) A4_0_0 c4_0_0 _ ((((o7_0_0).alloc _).alloc _).rd') (((o4_0_0v7).alloc _).alloc _) (by omega) (by omega)).mono ?_); rintro e w8 ⟨rfl, hb8⟩)
      have s8 : w7.heap.size + 2 ≤ w8.heap.size := by have := hb8.size; simpa using this
      have B8 : Below w.heap.size w w8 := (((B7).alloc (by first | omega | (simp <;> omega)) _).alloc (by first | omega | (simp <;> omega)) _).trans (hb8.mono (by first | omega | (simp <;> omega)))
      have k1_0v8 := (((k1_0v7).alloc _).alloc _).st hb8
      have o4_0_0v8 := (((o4_0_0v7).alloc _).alloc _).st hb8
      have k5_0v8 := (((k5_0v7).alloc _).alloc _).st hb8
      have o4_1_0v8 := (((o4_1_0v7).alloc _).alloc _).st hb8
      have o4_1_1v8 := (((o4_1_1v7).alloc _).alloc _).st hb8
      have k5_1v8 := (((k5_1v7).alloc _).alloc _).st hb8
      have o5_0v8 := (((o5_0v7).alloc _).alloc _).st hb8
      have k6_0v8 := (((k6_0v7).alloc _).alloc _).st hb8
      have o6_0v8 := (((o6_0v7).alloc _).alloc _).st hb8
      have o7_0_0v8 := (((o7_0_0).alloc _).alloc _).st hb8
      have k8_0 := ((Bk.new w7 _ _).alloc _).st hb8
      have o7_1_0v8 := (((o7_1_0).alloc _).alloc _).st hb8
      have o7_1_1v8 := (((o7_1_1).alloc _).alloc _).st hb8
      have k8_1 := (Bk.new2 w7 _ _ _).st hb8
      clear k1_0v7 o4_0_0v7 k5_0v7 o4_1_0v7 o4_1_1v7 k5_1v7 o5_0v7 k6_0v7 o6_0v7 o7_0_0 o7_1_0 o7_1_1 xk5_0v7 ck5_0v7_0 ck5_0v7_1 ck5_0v7_2 xk5_1v7 ck5_1v7_0 ck5_1v7_1
      have xk8_0 := k8_0.lt
      have ck8_0_0 := k8_0.cell 0
      simp at ck8_0_0
      have ck8_0_1 := k8_0.cell 1
      simp at ck8_0_1
      have ck8_0_2 := k8_0.cell 2
      simp at ck8_0_2
      have xk5_0v8 := k5_0v8.lt
      have ck5_0v8_0 := k5_0v8.cell 0
      simp at ck5_0v8_0
      have ck5_0v8_1 := k5_0v8.cell 1
      simp at ck5_0v8_1
      have ck5_0v8_2 := k5_0v8.cell 2
      simp at ck5_0v8_2
      have xk8_1 := k8_1.lt
      have ck8_1_0 := k8_1.cell 0
      simp at ck8_1_0
      have ck8_1_1 := k8_1.cell 1
      simp at ck8_1_1
      have xk5_1v8 := k5_1v8.lt
      have ck5_1v8_0 := k5_1v8.cell 0
      simp at ck5_1v8_0
      have ck5_1v8_1 := k5_1v8.cell 1
      simp at ck5_1v8_1
      go_wp2_with fail
      ((with_reducible refine (eqSecret_b (hmP a0_0 a0_1 a0_2 a1_0) A7_1_0 c7_1_0 (hmS a0_0 a0_1 a0_2 a1_0) A7_1_1 c7_1_1 (hmP a0_0 a0_1 a0_2 a1_0) A4_1_0 c4_1_0 (hmS a0_0 a0_1 a0_2 a1_0) A4_1_1 c4_1_1 _ ((o7_1_0v8).rd') ((o7_1_1v8).rd') o4_1_0v8 o4_1_1v8 (by omega) (by omega) (by omega) (by omega)).mono ?_); rintro e w9 ⟨rfl, hb9⟩)
      have s9 : w8.heap.size ≤ w9.heap.size := by have := hb9.size; simpa using this
      have B9 : Below w.heap.size w w9 := (B8).trans (hb9.mono (by first | omega | (simp <;> omega)))
      have k1_0v9 := (k1_0v8).st hb9
      have o4_0_0v9 := (o4_0_0v8).st hb9
      have k5_0v9 := (k5_0v8).st hb9
      have o4_1_0v9 := (o4_1_0v8).st hb9
      have o4_1_1v9 := (o4_1_1v8).st hb9
      have k5_1v9 := (k5_1v8).st hb9
      have o5_0v9 := (o5_0v8).st hb9
      have k6_0v9 := (k6_0v8).st hb9
      have o6_0v9 := (o6_0v8).st hb9
      have o7_0_0v9 := (o7_0_0v8).st hb9
      have k8_0v9 := (k8_0).st hb9
      have o7_1_0v9 := (o7_1_0v8).st hb9
      have o7_1_1v9 := (o7_1_1v8).st hb9
      have k8_1v9 := (k8_1).st hb9
      clear k1_0v8 o4_0_0v8 k5_0v8 o4_1_0v8 o4_1_1v8 k5_1v8 o5_0v8 k6_0v8 o6_0v8 o7_0_0v8 k8_0 o7_1_0v8 o7_1_1v8 k8_1 xk8_0 ck8_0_0 ck8_0_1 ck8_0_2 xk5_0v8 ck5_0v8_0 ck5_0v8_1 ck5_0v8_2 xk8_1 ck8_1_0 ck8_1_1 xk5_1v8 ck5_1v8_0 ck5_1v8_1
      have hq2 := eqKb_self a0_0 a0_1 a0_2
      have xk6_0v9 := k6_0v9.lt
      have ck6_0v9_0 := k6_0v9.cell 0
      simp at ck6_0v9_0
      have ck6_0v9_1 := k6_0v9.cell 1
      simp at ck6_0v9_1
      have ck6_0v9_2 := k6_0v9.cell 2
      simp at ck6_0v9_2
      have xk1_0v9 := k1_0v9.lt
      have ck1_0v9_0 := k1_0v9.cell 0
      simp at ck1_0v9_0
      have ck1_0v9_1 := k1_0v9.cell 1
      simp at ck1_0v9_1
      have ck1_0v9_2 := k1_0v9.cell 2
      simp at ck1_0v9_2
      go_wp2_with fail
      go_region_held3 (fun w' => w'.cell? ⟨w5.heap.size, 0, none⟩ = some (.int .i64 a0_0) ∧ w'.cell? ⟨w5.heap.size, 1, none⟩ = some (.int .i64 a0_1) ∧ w'.cell? ⟨w5.heap.size, 2, none⟩ = some (.slice A5_0 a0_2.length c5_0) ∧ w'.cell? ⟨w.heap.size, 0, none⟩ = some (.int .i64 a0_0) ∧ w'.cell? ⟨w.heap.size, 1, none⟩ = some (.int .i64 a0_1) ∧ w'.cell? ⟨w.heap.size, 2, none⟩ = some (.slice Aa0_2 a0_2.length ca0_2)) (first | go_keep | ((try go_split_ands); (try dsimp only); (repeat' apply And.intro) <;> (first | go_keep | ((refine (hc11 _ _ ?_).trans ?_) <;> first | assumption | omega | (simp <;> omega)) | ((refine (hc10 _ _ ?_).trans ?_) <;> first | assumption | omega | (simp <;> omega)) | ((with_reducible refine cell_realloc ?_ (by with_reducible assumption)) <;> first | (dsimp only; omega) | omega))))
        (first
          | (go_at_call 14; ((with_reducible refine (toKeyBook_any a0_0 a0_1 a0_2 Aa0_2 ca0_2 _ (((h0_0.below B9 (Nat.le_refl _))).drew) (by omega)).mono ?_); rintro e w10 ⟨A10_0, c10_0, rfl, o10_0, hb10⟩; (have s10 : w9.heap.size ≤ w10.heap.size := by have := hb10.size; simpa using this); (have B10 : Below w.heap.size w w10 := ((B9).drew).trans (hb10.mono (by first | omega | (simp <;> omega)))); (have k1_0v10 := ((k1_0v9).drew).st hb10); (have o4_0_0v10 := ((o4_0_0v9).drew).st hb10); (have k5_0v10 := ((k5_0v9).drew).st hb10); (have o4_1_0v10 := ((o4_1_0v9).drew).st hb10); (have o4_1_1v10 := ((o4_1_1v9).drew).st hb10); (have k5_1v10 := ((k5_1v9).drew).st hb10); (have o5_0v10 := ((o5_0v9).drew).st hb10); (have k6_0v10 := ((k6_0v9).drew).st hb10); (have o6_0v10 := ((o6_0v9).drew).st hb10); (have o7_0_0v10 := ((o7_0_0v9).drew).st hb10); (have k8_0v10 := ((k8_0v9).drew).st hb10); (have o7_1_0v10 := ((o7_1_0v9).drew).st hb10); (have o7_1_1v10 := ((o7_1_1v9).drew).st hb10); (have k8_1v10 := ((k8_1v9).drew).st hb10); (have hc10 := (bcell hb10).1)))
          | (go_at_call 16; ((with_reducible refine (eqKeyBook_b a0_0 a0_1 a0_2 A5_0 c5_0 a0_0 a0_1 a0_2 A10_0 c10_0 _ ((o5_0v10).rd') ((o10_0).rd') (by omega) (by omega)).mono ?_); rintro e w11 ⟨rfl, hb11⟩; (have s11 : w10.heap.size ≤ w11.heap.size := by have := hb11.size; simpa using this); (have B11 : Below w.heap.size w w11 := (B10).trans (hb11.mono (by first | omega | (simp <;> omega)))); (have k1_0v11 := (k1_0v10).st hb11); (have o4_0_0v11 := (o4_0_0v10).st hb11); (have k5_0v11 := (k5_0v10).st hb11); (have o4_1_0v11 := (o4_1_0v10).st hb11); (have o4_1_1v11 := (o4_1_1v10).st hb11); (have k5_1v11 := (k5_1v10).st hb11); (have o5_0v11 := (o5_0v10).st hb11); (have k6_0v11 := (k6_0v10).st hb11); (have o6_0v11 := (o6_0v10).st hb11); (have o7_0_0v11 := (o7_0_0v10).st hb11); (have k8_0v11 := (k8_0v10).st hb11); (have o7_1_0v11 := (o7_1_0v10).st hb11); (have o7_1_1v11 := (o7_1_1v10).st hb11); (have k8_1v11 := (k8_1v10).st hb11); (have o10_0v11 := (o10_0).st hb11); (have hc11 := (bcell hb11).1))))
      clear xk6_0v9 ck6_0v9_0 ck6_0v9_1 ck6_0v9_2 xk1_0v9 ck1_0v9_0 ck1_0v9_1 ck1_0v9_2
      have hq3 := eqL_self a1_0
      go_wp2_with fail
      ((with_reducible refine (toIntS_b a1_0 Aa1_0 ca1_0 _ ((h1_0.below B11 (Nat.le_refl _))) (by omega)).mono ?_); rintro e w12 ⟨A12_0, c12_0, rfl, o12_0, hb12⟩)
      have s12 : w11.heap.size ≤ w12.heap.size := by have := hb12.size; simpa using this
      have B12 : Below w.heap.size w w12 := (B11).trans (hb12.mono (by first | omega | (simp <;> omega)))
      have k1_0v12 := (k1_0v11).st hb12
      have o4_0_0v12 := (o4_0_0v11).st hb12
      have k5_0v12 := (k5_0v11).st hb12
      have o4_1_0v12 := (o4_1_0v11).st hb12
      have o4_1_1v12 := (o4_1_1v11).st hb12
      have k5_1v12 := (k5_1v11).st hb12
      have o5_0v12 := (o5_0v11).st hb12
      have k6_0v12 := (k6_0v11).st hb12
      have o6_0v12 := (o6_0v11).st hb12
      have o7_0_0v12 := (o7_0_0v11).st hb12
      have k8_0v12 := (k8_0v11).st hb12
      have o7_1_0v12 := (o7_1_0v11).st hb12
      have o7_1_1v12 := (o7_1_1v11).st hb12
      have k8_1v12 := (k8_1v11).st hb12
      clear k1_0v11 o4_0_0v11 k5_0v11 o4_1_0v11 o4_1_1v11 k5_1v11 o5_0v11 k6_0v11 o6_0v11 o7_0_0v11 k8_0v11 o7_1_0v11 o7_1_1v11 k8_1v11
      go_wp2_with fail
      ((with_reducible refine (eqIntS_b a1_0 A6_0 c6_0 a1_0 A12_0 c12_0 _ ((o6_0v12).rd') ((o12_0).rd') (by omega) (by omega)).mono ?_); rintro e w13 ⟨rfl, hb13⟩)
      have s13 : w12.heap.size ≤ w13.heap.size := by have := hb13.size; simpa using this
      have B13 : Below w.heap.size w w13 := (B12).trans (hb13.mono (by first | omega | (simp <;> omega)))
      have k1_0v13 := (k1_0v12).st hb13
      have o4_0_0v13 := (o4_0_0v12).st hb13
      have k5_0v13 := (k5_0v12).st hb13
      have o4_1_0v13 := (o4_1_0v12).st hb13
      have o4_1_1v13 := (o4_1_1v12).st hb13
      have k5_1v13 := (k5_1v12).st hb13
      have o5_0v13 := (o5_0v12).st hb13
      have k6_0v13 := (k6_0v12).st hb13
      have o6_0v13 := (o6_0v12).st hb13
      have o7_0_0v13 := (o7_0_0v12).st hb13
      have k8_0v13 := (k8_0v12).st hb13
      have o7_1_0v13 := (o7_1_0v12).st hb13
      have o7_1_1v13 := (o7_1_1v12).st hb13
      have k8_1v13 := (k8_1v12).st hb13
      have o12_0v13 := (o12_0).st hb13
      clear k1_0v12 o4_0_0v12 k5_0v12 o4_1_0v12 o4_1_1v12 k5_1v12 o5_0v12 k6_0v12 o6_0v12 o7_0_0v12 k8_0v12 o7_1_0v12 o7_1_1v12 k8_1v12 o12_0
      have xk6_0v13 := k6_0v13.lt
      have ck6_0v13_0 := k6_0v13.cell 0
      simp at ck6_0v13_0
      have ck6_0v13_1 := k6_0v13.cell 1
      simp at ck6_0v13_1
      have ck6_0v13_2 := k6_0v13.cell 2
      simp at ck6_0v13_2
      go_wp2_with fail
      ((with_reducible refine (markKeyBook_b a0_0 a0_1 a0_2 A5_0 c5_0 1 _ o5_0v13 (by omega) (by omega)).mono ?_); rintro e w14 ⟨rfl, f14_0, hb14⟩)
      have s14 : w13.heap.size ≤ w14.heap.size := by have := hb14.size; simpa using this
      have B14 : Below w.heap.size w w14 := (B13).trans (hb14.below (by first | omega | (simp <;> omega)) (by first | omega | (simp <;> omega)))
      have k1_0v14 := (k1_0v13).fr hb14 (by first | omega | (simp <;> omega))
      have o4_0_0v14 := (o4_0_0v13).fr hb14 (by first | omega | (simp <;> omega))
      have k5_0v14 := (k5_0v13).fr hb14 (by first | omega | (simp <;> omega))
      have o4_1_0v14 := (o4_1_0v13).fr hb14 (by first | omega | (simp <;> omega))
      have o4_1_1v14 := (o4_1_1v13).fr hb14 (by first | omega | (simp <;> omega))
      have k5_1v14 := (k5_1v13).fr hb14 (by first | omega | (simp <;> omega))
      have k6_0v14 := (k6_0v13).fr hb14 (by first | omega | (simp <;> omega))
      have o6_0v14 := (o6_0v13).fr hb14 (by first | omega | (simp <;> omega))
      have o7_0_0v14 := (o7_0_0v13).fr hb14 (by first | omega | (simp <;> omega))
      have k8_0v14 := (k8_0v13).fr hb14 (by first | omega | (simp <;> omega))
      have o7_1_0v14 := (o7_1_0v13).fr hb14 (by first | omega | (simp <;> omega))
      have o7_1_1v14 := (o7_1_1v13).fr hb14 (by first | omega | (simp <;> omega))
      have k8_1v14 := (k8_1v13).fr hb14 (by first | omega | (simp <;> omega))
      clear k1_0v13 o4_0_0v13 k5_0v13 o4_1_0v13 o4_1_1v13 k5_1v13 k6_0v13 o6_0v13 o7_0_0v13 k8_0v13 o7_1_0v13 o7_1_1v13 k8_1v13 xk6_0v13 ck6_0v13_0 ck6_0v13_1 ck6_0v13_2
      go_wp2_with fail
      ((with_reducible refine (markIntS_b a1_0 A6_0 c6_0 (1 + (a0_2.length : Int)) _ o6_0v14 (by omega) (by omega)).mono ?_); rintro e w15 ⟨rfl, f15_0, hb15⟩)
      have s15 : w14.heap.size ≤ w15.heap.size := by have := hb15.size; simpa using this
      have B15 : Below w.heap.size w w15 := (B14).trans (hb15.below (by first | omega | (simp <;> omega)) (by first | omega | (simp <;> omega)))
      have k1_0v15 := (k1_0v14).fr hb15 (by first | omega | (simp <;> omega))
      have o4_0_0v15 := (o4_0_0v14).fr hb15 (by first | omega | (simp <;> omega))
      have k5_0v15 := (k5_0v14).fr hb15 (by first | omega | (simp <;> omega))
      have o4_1_0v15 := (o4_1_0v14).fr hb15 (by first | omega | (simp <;> omega))
      have o4_1_1v15 := (o4_1_1v14).fr hb15 (by first | omega | (simp <;> omega))
      have k5_1v15 := (k5_1v14).fr hb15 (by first | omega | (simp <;> omega))
      have o7_0_0v15 := (o7_0_0v14).fr hb15 (by first | omega | (simp <;> omega))
      have k8_0v15 := (k8_0v14).fr hb15 (by first | omega | (simp <;> omega))
      have o7_1_0v15 := (o7_1_0v14).fr hb15 (by first | omega | (simp <;> omega))
      have o7_1_1v15 := (o7_1_1v14).fr hb15 (by first | omega | (simp <;> omega))
      have k8_1v15 := (k8_1v14).fr hb15 (by first | omega | (simp <;> omega))
      clear k1_0v14 o4_0_0v14 k5_0v14 o4_1_0v14 o4_1_1v14 k5_1v14 o7_0_0v14 k8_0v14 o7_1_0v14 o7_1_1v14 k8_1v14
      have xk8_0v15 := k8_0v15.lt
      have ck8_0v15_0 := k8_0v15.cell 0
      simp at ck8_0v15_0
      have ck8_0v15_1 := k8_0v15.cell 1
      simp at ck8_0v15_1
      have ck8_0v15_2 := k8_0v15.cell 2
      simp at ck8_0v15_2
      have xk5_0v15 := k5_0v15.lt
      have ck5_0v15_0 := k5_0v15.cell 0
      simp at ck5_0v15_0
      have ck5_0v15_1 := k5_0v15.cell 1
      simp at ck5_0v15_1
      have ck5_0v15_2 := k5_0v15.cell 2
      simp at ck5_0v15_2
      have xk8_1v15 := k8_1v15.lt
      have ck8_1v15_0 := k8_1v15.cell 0
      simp at ck8_1v15_0
      have ck8_1v15_1 := k8_1v15.cell 1
      simp at ck8_1v15_1
      have xk5_1v15 := k5_1v15.lt
      have ck5_1v15_0 := k5_1v15.cell 0
      simp at ck5_1v15_0
      have ck5_1v15_1 := k5_1v15.cell 1
      simp at ck5_1v15_1
      go_wp2_with fail
      ((with_reducible refine (eqKeyBook_b (hmK a0_0 a0_1 a0_2 a1_0) (hmG a0_0 a0_1 a0_2 a1_0) (hmL a0_0 a0_1 a0_2 a1_0) A7_0_0 c7_0_0 (hmK a0_0 a0_1 a0_2 a1_0) (hmG a0_0 a0_1 a0_2 a1_0) (hmL a0_0 a0_1 a0_2 a1_0) A4_0_0 c4_0_0 _ ((o7_0_0v15).rd') o4_0_0v15 (by omega) (by omega)).mono ?_); rintro e w16 ⟨rfl, hb16⟩)
      have s16 : w15.heap.size ≤ w16.heap.size := by have := hb16.size; simpa using this
      have B16 : Below w.heap.size w w16 := (B15).trans (hb16.mono (by first | omega | (simp <;> omega)))
      have k1_0v16 := (k1_0v15).st hb16
      have o4_0_0v16 := (o4_0_0v15).st hb16
      have k5_0v16 := (k5_0v15).st hb16
      have o4_1_0v16 := (o4_1_0v15).st hb16
      have o4_1_1v16 := (o4_1_1v15).st hb16
      have k5_1v16 := (k5_1v15).st hb16
      have o7_0_0v16 := (o7_0_0v15).st hb16
      have k8_0v16 := (k8_0v15).st hb16
      have o7_1_0v16 := (o7_1_0v15).st hb16
      have o7_1_1v16 := (o7_1_1v15).st hb16
      have k8_1v16 := (k8_1v15).st hb16
      clear k1_0v15 o4_0_0v15 k5_0v15 o4_1_0v15 o4_1_1v15 k5_1v15 o7_0_0v15 k8_0v15 o7_1_0v15 o7_1_1v15 k8_1v15 xk8_0v15 ck8_0v15_0 ck8_0v15_1 ck8_0v15_2 xk5_0v15 ck5_0v15_0 ck5_0v15_1 ck5_0v15_2 xk8_1v15 ck8_1v15_0 ck8_1v15_1 xk5_1v15 ck5_1v15_0 ck5_1v15_1
      have xk8_0v16 := k8_0v16.lt
      have ck8_0v16_0 := k8_0v16.cell 0
      simp at ck8_0v16_0
      have ck8_0v16_1 := k8_0v16.cell 1
      simp at ck8_0v16_1
      have ck8_0v16_2 := k8_0v16.cell 2
      simp at ck8_0v16_2
      have xk5_0v16 := k5_0v16.lt
      have ck5_0v16_0 := k5_0v16.cell 0
      simp at ck5_0v16_0
      have ck5_0v16_1 := k5_0v16.cell 1
      simp at ck5_0v16_1
      have ck5_0v16_2 := k5_0v16.cell 2
      simp at ck5_0v16_2
      have xk8_1v16 := k8_1v16.lt
      have ck8_1v16_0 := k8_1v16.cell 0
      simp at ck8_1v16_0
      have ck8_1v16_1 := k8_1v16.cell 1
      simp at ck8_1v16_1
      have xk5_1v16 := k5_1v16.lt
      have ck5_1v16_0 := k5_1v16.cell 0
      simp at ck5_1v16_0
      have ck5_1v16_1 := k5_1v16.cell 1
      simp at ck5_1v16_1
      go_wp2_with fail
      ((with_reducible refine (eqSecret_b (hmP a0_0 a0_1 a0_2 a1_0) A7_1_0 c7_1_0 (hmS a0_0 a0_1 a0_2 a1_0) A7_1_1 c7_1_1 (hmP a0_0 a0_1 a0_2 a1_0) A4_1_0 c4_1_0 (hmS a0_0 a0_1 a0_2 a1_0) A4_1_1 c4_1_1 _ ((o7_1_0v16).rd') ((o7_1_1v16).rd') o4_1_0v16 o4_1_1v16 (by omega) (by omega) (by omega) (by omega)).mono ?_); rintro e w17 ⟨rfl, hb17⟩)
      have s17 : w16.heap.size ≤ w17.heap.size := by have := hb17.size; simpa using this
      have B17 : Below w.heap.size w w17 := (B16).trans (hb17.mono (by first | omega | (simp <;> omega)))
      have k1_0v17 := (k1_0v16).st hb17
      have o4_0_0v17 := (o4_0_0v16).st hb17
      have k5_0v17 := (k5_0v16).st hb17
      have o4_1_0v17 := (o4_1_0v16).st hb17
      have o4_1_1v17 := (o4_1_1v16).st hb17
      have k5_1v17 := (k5_1v16).st hb17
      have o7_0_0v17 := (o7_0_0v16).st hb17
      have k8_0v17 := (k8_0v16).st hb17
      have o7_1_0v17 := (o7_1_0v16).st hb17
      have o7_1_1v17 := (o7_1_1v16).st hb17
      have k8_1v17 := (k8_1v16).st hb17
      clear k1_0v16 o4_0_0v16 k5_0v16 o4_1_0v16 o4_1_1v16 k5_1v16 o7_0_0v16 k8_0v16 o7_1_0v16 o7_1_1v16 k8_1v16 xk8_0v16 ck8_0v16_0 ck8_0v16_1 ck8_0v16_2 xk5_0v16 ck5_0v16_0 ck5_0v16_1 ck5_0v16_2 xk8_1v16 ck8_1v16_0 ck8_1v16_1 xk5_1v16 ck5_1v16_0 ck5_1v16_1
      have xk8_0v17 := k8_0v17.lt
      have ck8_0v17_0 := k8_0v17.cell 0
      simp at ck8_0v17_0
      have ck8_0v17_1 := k8_0v17.cell 1
      simp at ck8_0v17_1
      have ck8_0v17_2 := k8_0v17.cell 2
      simp at ck8_0v17_2
      go_wp2_with fail
      ((with_reducible refine (markKeyBook_b (hmK a0_0 a0_1 a0_2 a1_0) (hmG a0_0 a0_1 a0_2 a1_0) (hmL a0_0 a0_1 a0_2 a1_0) A7_0_0 c7_0_0 1 _ o7_0_0v17 (by omega) (by omega)).mono ?_); rintro e w18 ⟨rfl, f18_0, hb18⟩)
      have s18 : w17.heap.size ≤ w18.heap.size := by have := hb18.size; simpa using this
      have B18 : Below w.heap.size w w18 := (B17).trans (hb18.below (by first | omega | (simp <;> omega)) (by first | omega | (simp <;> omega)))
      have k1_0v18 := (k1_0v17).fr hb18 (by first | omega | (simp <;> omega))
      have o4_0_0v18 := (o4_0_0v17).fr hb18 (by first | omega | (simp <;> omega))
      have k5_0v18 := (k5_0v17).fr hb18 (by first | omega | (simp <;> omega))
      have o4_1_0v18 := (o4_1_0v17).fr hb18 (by first | omega | (simp <;> omega))
      have o4_1_1v18 := (o4_1_1v17).fr hb18 (by first | omega | (simp <;> omega))
      have k5_1v18 := (k5_1v17).fr hb18 (by first | omega | (simp <;> omega))
      have k8_0v18 := (k8_0v17).fr hb18 (by first | omega | (simp <;> omega))
      have o7_1_0v18 := (o7_1_0v17).fr hb18 (by first | omega | (simp <;> omega))
      have o7_1_1v18 := (o7_1_1v17).fr hb18 (by first | omega | (simp <;> omega))
      have k8_1v18 := (k8_1v17).fr hb18 (by first | omega | (simp <;> omega))
      clear k1_0v17 o4_0_0v17 k5_0v17 o4_1_0v17 o4_1_1v17 k5_1v17 k8_0v17 o7_1_0v17 o7_1_1v17 k8_1v17 xk8_0v17 ck8_0v17_0 ck8_0v17_1 ck8_0v17_2
      have xk8_1v18 := k8_1v18.lt
      have ck8_1v18_0 := k8_1v18.cell 0
      simp at ck8_1v18_0
      have ck8_1v18_1 := k8_1v18.cell 1
      simp at ck8_1v18_1
      go_wp2_with fail
      ((with_reducible refine (markSecret_p (hmP a0_0 a0_1 a0_2 a1_0) A7_1_0 c7_1_0 (hmS a0_0 a0_1 a0_2 a1_0) A7_1_1 c7_1_1 (1 + ((hmL a0_0 a0_1 a0_2 a1_0).length : Int)) _ o7_1_0v18 o7_1_1v18 (by omega) (by omega) (by omega)).mono ?_); rintro e w19 ⟨rfl, f19_0, f19_1, wm19, ha19, hb19⟩)
      have s19 : w18.heap.size ≤ w19.heap.size := Nat.le_trans (by simpa using ha19.size) hb19.size
      have B19 : Below w.heap.size w w19 := ((B18).trans (ha19.below (by first | omega | (simp <;> omega)) (by first | omega | (simp <;> omega)))).trans (hb19.below (by first | omega | (simp <;> omega)) (Nat.le_trans (by first | omega | (simp <;> omega)) ha19.size))
      have k1_0v19 := ((k1_0v18).fr ha19 (by first | omega | (simp <;> omega))).fr hb19 (by first | omega | (simp <;> omega))
      have o4_0_0v19 := ((o4_0_0v18).fr ha19 (by first | omega | (simp <;> omega))).fr hb19 (by first | omega | (simp <;> omega))
      have k5_0v19 := ((k5_0v18).fr ha19 (by first | omega | (simp <;> omega))).fr hb19 (by first | omega | (simp <;> omega))
      have o4_1_0v19 := ((o4_1_0v18).fr ha19 (by first | omega | (simp <;> omega))).fr hb19 (by first | omega | (simp <;> omega))
      have o4_1_1v19 := ((o4_1_1v18).fr ha19 (by first | omega | (simp <;> omega))).fr hb19 (by first | omega | (simp <;> omega))
      have k5_1v19 := ((k5_1v18).fr ha19 (by first | omega | (simp <;> omega))).fr hb19 (by first | omega | (simp <;> omega))
      have f18_0v19 := ((f18_0).fr ha19 (by first | omega | (simp <;> omega))).fr hb19 (by first | omega | (simp <;> omega))
      have k8_0v19 := ((k8_0v18).fr ha19 (by first | omega | (simp <;> omega))).fr hb19 (by first | omega | (simp <;> omega))
      have k8_1v19 := ((k8_1v18).fr ha19 (by first | omega | (simp <;> omega))).fr hb19 (by first | omega | (simp <;> omega))
      clear k1_0v18 o4_0_0v18 k5_0v18 o4_1_0v18 o4_1_1v18 k5_1v18 f18_0 k8_0v18 k8_1v18 xk8_1v18 ck8_1v18_0 ck8_1v18_1
      have xk8_0v19 := k8_0v19.lt
      have ck8_0v19_0 := k8_0v19.cell 0
      simp at ck8_0v19_0
      have ck8_0v19_1 := k8_0v19.cell 1
      simp at ck8_0v19_1
      have ck8_0v19_2 := k8_0v19.cell 2
      simp at ck8_0v19_2
      go_wp2_with fail
      ((with_reducible refine (heldKeyBook_b (hmK a0_0 a0_1 a0_2 a1_0) (hmG a0_0 a0_1 a0_2 a1_0) (hmL a0_0 a0_1 a0_2 a1_0) A7_0_0 c7_0_0 1 _ ((f18_0v19).rd') (by omega) (by omega)).mono ?_); rintro e w20 ⟨rfl, hb20⟩)
      have s20 : w19.heap.size ≤ w20.heap.size := by have := hb20.size; simpa using this
      have B20 : Below w.heap.size w w20 := (B19).trans (hb20.mono (by first | omega | (simp <;> omega)))
      have k1_0v20 := (k1_0v19).st hb20
      have o4_0_0v20 := (o4_0_0v19).st hb20
      have k5_0v20 := (k5_0v19).st hb20
      have o4_1_0v20 := (o4_1_0v19).st hb20
      have o4_1_1v20 := (o4_1_1v19).st hb20
      have k5_1v20 := (k5_1v19).st hb20
      have f18_0v20 := (f18_0v19).st hb20
      have k8_0v20 := (k8_0v19).st hb20
      have f19_0v20 := (f19_0).st hb20
      have f19_1v20 := (f19_1).st hb20
      have k8_1v20 := (k8_1v19).st hb20
      clear k1_0v19 o4_0_0v19 k5_0v19 o4_1_0v19 o4_1_1v19 k5_1v19 f18_0v19 k8_0v19 f19_0 f19_1 k8_1v19 xk8_0v19 ck8_0v19_0 ck8_0v19_1 ck8_0v19_2
      have xk8_1v20 := k8_1v20.lt
      have ck8_1v20_0 := k8_1v20.cell 0
      simp at ck8_1v20_0
      have ck8_1v20_1 := k8_1v20.cell 1
      simp at ck8_1v20_1
      go_wp2_with fail
      ((with_reducible refine (heldSecret_b (hmP a0_0 a0_1 a0_2 a1_0) A7_1_0 c7_1_0 (hmS a0_0 a0_1 a0_2 a1_0) A7_1_1 c7_1_1 (1 + ((hmL a0_0 a0_1 a0_2 a1_0).length : Int)) _ ((f19_0v20).rd') ((f19_1v20).rd') (by omega) (by omega)).mono ?_); rintro e w21 ⟨rfl, hb21⟩)
      have s21 : w20.heap.size ≤ w21.heap.size := by have := hb21.size; simpa using this
      have B21 : Below w.heap.size w w21 := (B20).trans (hb21.mono (by first | omega | (simp <;> omega)))
      have k1_0v21 := (k1_0v20).st hb21
      have o4_0_0v21 := (o4_0_0v20).st hb21
      have k5_0v21 := (k5_0v20).st hb21
      have o4_1_0v21 := (o4_1_0v20).st hb21
      have o4_1_1v21 := (o4_1_1v20).st hb21
      have k5_1v21 := (k5_1v20).st hb21
      have f18_0v21 := (f18_0v20).st hb21
      have k8_0v21 := (k8_0v20).st hb21
      have f19_0v21 := (f19_0v20).st hb21
      have f19_1v21 := (f19_1v20).st hb21
      have k8_1v21 := (k8_1v20).st hb21
      clear k1_0v20 o4_0_0v20 k5_0v20 o4_1_0v20 o4_1_1v20 k5_1v20 f18_0v20 k8_0v20 f19_0v20 f19_1v20 k8_1v20 xk8_1v20 ck8_1v20_0 ck8_1v20_1
      have xk1_0v21 := k1_0v21.lt
      have ck1_0v21_0 := k1_0v21.cell 0
      simp at ck1_0v21_0
      have ck1_0v21_1 := k1_0v21.cell 1
      simp at ck1_0v21_1
      have ck1_0v21_2 := k1_0v21.cell 2
      simp at ck1_0v21_2
      go_wp2_with fail
      ((with_reducible refine (toKeyBook_any a0_0 a0_1 a0_2 Aa0_2 ca0_2 _ ((h0_0.below B21 (Nat.le_refl _))) (by omega)).mono ?_); rintro e w22 ⟨A22_0, c22_0, rfl, o22_0, hb22⟩)
      have s22 : w21.heap.size ≤ w22.heap.size := by have := hb22.size; simpa using this
      have B22 : Below w.heap.size w w22 := (B21).trans (hb22.mono (by first | omega | (simp <;> omega)))
      have k1_0v22 := (k1_0v21).st hb22
      have o4_0_0v22 := (o4_0_0v21).st hb22
      have k5_0v22 := (k5_0v21).st hb22
      have o4_1_0v22 := (o4_1_0v21).st hb22
      have o4_1_1v22 := (o4_1_1v21).st hb22
      have k5_1v22 := (k5_1v21).st hb22
      have f18_0v22 := (f18_0v21).st hb22
      have k8_0v22 := (k8_0v21).st hb22
      have f19_0v22 := (f19_0v21).st hb22
      have f19_1v22 := (f19_1v21).st hb22
      have k8_1v22 := (k8_1v21).st hb22
      clear k1_0v21 o4_0_0v21 k5_0v21 o4_1_0v21 o4_1_1v21 k5_1v21 f18_0v21 k8_0v21 f19_0v21 f19_1v21 k8_1v21 xk1_0v21 ck1_0v21_0 ck1_0v21_1 ck1_0v21_2
      have xk1_0v22 := k1_0v22.lt
      have ck1_0v22_0 := k1_0v22.cell 0
      simp at ck1_0v22_0
      have ck1_0v22_1 := k1_0v22.cell 1
      simp at ck1_0v22_1
      have ck1_0v22_2 := k1_0v22.cell 2
      simp at ck1_0v22_2
      go_wp2_with fail
      ((with_reducible refine (toIntS_b a1_0 Aa1_0 ca1_0 _ ((h1_0.below B22 (Nat.le_refl _))) (by omega)).mono ?_); rintro e w23 ⟨A23_0, c23_0, rfl, o23_0, hb23⟩)
      have s23 : w22.heap.size ≤ w23.heap.size := by have := hb23.size; simpa using this
      have B23 : Below w.heap.size w w23 := (B22).trans (hb23.mono (by first | omega | (simp <;> omega)))
      have k1_0v23 := (k1_0v22).st hb23
      have o4_0_0v23 := (o4_0_0v22).st hb23
      have k5_0v23 := (k5_0v22).st hb23
      have o4_1_0v23 := (o4_1_0v22).st hb23
      have o4_1_1v23 := (o4_1_1v22).st hb23
      have k5_1v23 := (k5_1v22).st hb23
      have f18_0v23 := (f18_0v22).st hb23
      have k8_0v23 := (k8_0v22).st hb23
      have f19_0v23 := (f19_0v22).st hb23
      have f19_1v23 := (f19_1v22).st hb23
      have k8_1v23 := (k8_1v22).st hb23
      have o22_0v23 := (o22_0).st hb23
      clear k1_0v22 o4_0_0v22 k5_0v22 o4_1_0v22 o4_1_1v22 k5_1v22 f18_0v22 k8_0v22 f19_0v22 f19_1v22 k8_1v22 o22_0 xk1_0v22 ck1_0v22_0 ck1_0v22_1 ck1_0v22_2
      have xk1_0v23 := k1_0v23.lt
      have ck1_0v23_0 := k1_0v23.cell 0
      simp at ck1_0v23_0
      have ck1_0v23_1 := k1_0v23.cell 1
      simp at ck1_0v23_1
      have ck1_0v23_2 := k1_0v23.cell 2
      simp at ck1_0v23_2
      go_wp2_with fail
      ((with_reducible refine (iHideMessage_any a0_0 a0_1 a0_2 A22_0 c22_0 a1_0 A23_0 c23_0 _ ((o22_0v23).rd') ((o23_0).rd') (by omega) (by omega) ).mono ?_); rintro e w24 ⟨A24_0_0, c24_0_0, A24_1_0, c24_1_0, A24_1_1, c24_1_1, il24_0, ir24_0, il24_1, ir24_1, il24_2, ir24_2, rfl, o24_0_0, o24_1_0, o24_1_1, ⟨ib24_0, ib24_1, ib24_2, ib24_3, ib24_4, ib24_5, ib24_6, ib24_7, ib24_8⟩, l24_0, l24_1, l24_2, hb24⟩)
      have s24 : w23.heap.size ≤ w24.heap.size := by have := hb24.size; simpa using this
      have B24 : Below w.heap.size w w24 := (B23).trans (hb24.mono (by first | omega | (simp <;> omega)))
      have k1_0v24 := (k1_0v23).st hb24
      have o4_0_0v24 := (o4_0_0v23).st hb24
      have k5_0v24 := (k5_0v23).st hb24
      have o4_1_0v24 := (o4_1_0v23).st hb24
      have o4_1_1v24 := (o4_1_1v23).st hb24
      have k5_1v24 := (k5_1v23).st hb24
      have f18_0v24 := (f18_0v23).st hb24
      have k8_0v24 := (k8_0v23).st hb24
      have f19_0v24 := (f19_0v23).st hb24
      have f19_1v24 := (f19_1v23).st hb24
      have k8_1v24 := (k8_1v23).st hb24
      have o22_0v24 := (o22_0v23).st hb24
      have o23_0v24 := (o23_0).st hb24
      clear k1_0v23 o4_0_0v23 k5_0v23 o4_1_0v23 o4_1_1v23 k5_1v23 f18_0v23 k8_0v23 f19_0v23 f19_1v23 k8_1v23 o22_0v23 o23_0 xk1_0v23 ck1_0v23_0 ck1_0v23_1 ck1_0v23_2
      have jb24_0 : w23.heap.size ≤ il24_0 := by simpa using ib24_0
      have jb24_1 : w23.heap.size ≤ il24_1 := by simpa using ib24_2
      have jb24_2 : w23.heap.size ≤ il24_2 := by simpa using ib24_4
      have xk5_0v24 := k5_0v24.lt
      have ck5_0v24_0 := k5_0v24.cell 0
      simp at ck5_0v24_0
      have ck5_0v24_1 := k5_0v24.cell 1
      simp at ck5_0v24_1
      have ck5_0v24_2 := k5_0v24.cell 2
      simp at ck5_0v24_2
      have xk5_1v24 := k5_1v24.lt
      have ck5_1v24_0 := k5_1v24.cell 0
      simp at ck5_1v24_0
      have ck5_1v24_1 := k5_1v24.cell 1
      simp at ck5_1v24_1
      go_wp2_with fail
      ((with_reducible refine (eqKeyBook_b (hmK a0_0 a0_1 a0_2 a1_0) (hmG a0_0 a0_1 a0_2 a1_0) (hmL a0_0 a0_1 a0_2 a1_0) A24_0_0 c24_0_0 (hmK a0_0 a0_1 a0_2 a1_0) (hmG a0_0 a0_1 a0_2 a1_0) (hmL a0_0 a0_1 a0_2 a1_0) A4_0_0 c4_0_0 _ ((((o24_0_0).alloc _).alloc _).rd') (((o4_0_0v24).alloc _).alloc _) (by omega) (by omega)).mono ?_); rintro e w25 ⟨rfl, hb25⟩)
      have s25 : w24.heap.size + 2 ≤ w25.heap.size := by have := hb25.size; simpa using this
      have B25 : Below w.heap.size w w25 := (((B24).alloc (by first | omega | (simp <;> omega)) _).alloc (by first | omega | (simp <;> omega)) _).trans (hb25.mono (by first | omega | (simp <;> omega)))
      have k1_0v25 := (((k1_0v24).alloc _).alloc _).st hb25
      have o4_0_0v25 := (((o4_0_0v24).alloc _).alloc _).st hb25
      have k5_0v25 := (((k5_0v24).alloc _).alloc _).st hb25
      have o4_1_0v25 := (((o4_1_0v24).alloc _).alloc _).st hb25
      have o4_1_1v25 := (((o4_1_1v24).alloc _).alloc _).st hb25
      have k5_1v25 := (((k5_1v24).alloc _).alloc _).st hb25
      have f18_0v25 := (((f18_0v24).alloc _).alloc _).st hb25
      have k8_0v25 := (((k8_0v24).alloc _).alloc _).st hb25
      have f19_0v25 := (((f19_0v24).alloc _).alloc _).st hb25
      have f19_1v25 := (((f19_1v24).alloc _).alloc _).st hb25
      have k8_1v25 := (((k8_1v24).alloc _).alloc _).st hb25
      have o24_0_0v25 := (((o24_0_0).alloc _).alloc _).st hb25
      have k25_0 := ((Bk.new w24 _ _).alloc _).st hb25
      have o24_1_0v25 := (((o24_1_0).alloc _).alloc _).st hb25
      have o24_1_1v25 := (((o24_1_1).alloc _).alloc _).st hb25
      have k25_1 := (Bk.new2 w24 _ _ _).st hb25
      clear k1_0v24 o4_0_0v24 k5_0v24 o4_1_0v24 o4_1_1v24 k5_1v24 f18_0v24 k8_0v24 f19_0v24 f19_1v24 k8_1v24 o24_0_0 o24_1_0 o24_1_1 xk5_0v24 ck5_0v24_0 ck5_0v24_1 ck5_0v24_2 xk5_1v24 ck5_1v24_0 ck5_1v24_1
      have xk25_0 := k25_0.lt
      have ck25_0_0 := k25_0.cell 0
      simp at ck25_0_0
      have ck25_0_1 := k25_0.cell 1
      simp at ck25_0_1
      have ck25_0_2 := k25_0.cell 2
      simp at ck25_0_2
      have xk5_0v25 := k5_0v25.lt
      have ck5_0v25_0 := k5_0v25.cell 0
      simp at ck5_0v25_0
      have ck5_0v25_1 := k5_0v25.cell 1
      simp at ck5_0v25_1
      have ck5_0v25_2 := k5_0v25.cell 2
      simp at ck5_0v25_2
      have xk25_1 := k25_1.lt
      have ck25_1_0 := k25_1.cell 0
      simp at ck25_1_0
      have ck25_1_1 := k25_1.cell 1
      simp at ck25_1_1
      have xk5_1v25 := k5_1v25.lt
      have ck5_1v25_0 := k5_1v25.cell 0
      simp at ck5_1v25_0
      have ck5_1v25_1 := k5_1v25.cell 1
      simp at ck5_1v25_1
      go_wp2_with fail
      ((with_reducible refine (eqSecret_b (hmP a0_0 a0_1 a0_2 a1_0) A24_1_0 c24_1_0 (hmS a0_0 a0_1 a0_2 a1_0) A24_1_1 c24_1_1 (hmP a0_0 a0_1 a0_2 a1_0) A4_1_0 c4_1_0 (hmS a0_0 a0_1 a0_2 a1_0) A4_1_1 c4_1_1 _ ((o24_1_0v25).rd') ((o24_1_1v25).rd') o4_1_0v25 o4_1_1v25 (by omega) (by omega) (by omega) (by omega)).mono ?_); rintro e w26 ⟨rfl, hb26⟩)
      have s26 : w25.heap.size ≤ w26.heap.size := by have := hb26.size; simpa using this
      have B26 : Below w.heap.size w w26 := (B25).trans (hb26.mono (by first | omega | (simp <;> omega)))
      have k1_0v26 := (k1_0v25).st hb26
      have o4_0_0v26 := (o4_0_0v25).st hb26
      have k5_0v26 := (k5_0v25).st hb26
      have o4_1_0v26 := (o4_1_0v25).st hb26
      have o4_1_1v26 := (o4_1_1v25).st hb26
      have k5_1v26 := (k5_1v25).st hb26
      have f18_0v26 := (f18_0v25).st hb26
      have k8_0v26 := (k8_0v25).st hb26
      have f19_0v26 := (f19_0v25).st hb26
      have f19_1v26 := (f19_1v25).st hb26
      have k8_1v26 := (k8_1v25).st hb26
      have o24_0_0v26 := (o24_0_0v25).st hb26
      have k25_0v26 := (k25_0).st hb26
      have o24_1_0v26 := (o24_1_0v25).st hb26
      have o24_1_1v26 := (o24_1_1v25).st hb26
      have k25_1v26 := (k25_1).st hb26
      clear k1_0v25 o4_0_0v25 k5_0v25 o4_1_0v25 o4_1_1v25 k5_1v25 f18_0v25 k8_0v25 f19_0v25 f19_1v25 k8_1v25 o24_0_0v25 k25_0 o24_1_0v25 o24_1_1v25 k25_1 xk25_0 ck25_0_0 ck25_0_1 ck25_0_2 xk5_0v25 ck5_0v25_0 ck5_0v25_1 ck5_0v25_2 xk25_1 ck25_1_0 ck25_1_1 xk5_1v25 ck5_1v25_0 ck5_1v25_1
      have xk8_0v26 := k8_0v26.lt
      have ck8_0v26_0 := k8_0v26.cell 0
      simp at ck8_0v26_0
      have ck8_0v26_1 := k8_0v26.cell 1
      simp at ck8_0v26_1
      have ck8_0v26_2 := k8_0v26.cell 2
      simp at ck8_0v26_2
      go_wp2_with fail
      ((with_reducible refine (heldKeyBook_b (hmK a0_0 a0_1 a0_2 a1_0) (hmG a0_0 a0_1 a0_2 a1_0) (hmL a0_0 a0_1 a0_2 a1_0) A7_0_0 c7_0_0 1 _ ((f18_0v26).rd') (by omega) (by omega)).mono ?_); rintro e w27 ⟨rfl, hb27⟩)
      have s27 : w26.heap.size ≤ w27.heap.size := by have := hb27.size; simpa using this
      have B27 : Below w.heap.size w w27 := (B26).trans (hb27.mono (by first | omega | (simp <;> omega)))
      have k1_0v27 := (k1_0v26).st hb27
      have o4_0_0v27 := (o4_0_0v26).st hb27
      have k5_0v27 := (k5_0v26).st hb27
      have o4_1_0v27 := (o4_1_0v26).st hb27
      have o4_1_1v27 := (o4_1_1v26).st hb27
      have k5_1v27 := (k5_1v26).st hb27
      have f18_0v27 := (f18_0v26).st hb27
      have k8_0v27 := (k8_0v26).st hb27
      have f19_0v27 := (f19_0v26).st hb27
      have f19_1v27 := (f19_1v26).st hb27
      have k8_1v27 := (k8_1v26).st hb27
      have o24_0_0v27 := (o24_0_0v26).st hb27
      have k25_0v27 := (k25_0v26).st hb27
      have o24_1_0v27 := (o24_1_0v26).st hb27
      have o24_1_1v27 := (o24_1_1v26).st hb27
      have k25_1v27 := (k25_1v26).st hb27
      clear k1_0v26 o4_0_0v26 k5_0v26 o4_1_0v26 o4_1_1v26 k5_1v26 f18_0v26 k8_0v26 f19_0v26 f19_1v26 k8_1v26 o24_0_0v26 k25_0v26 o24_1_0v26 o24_1_1v26 k25_1v26 xk8_0v26 ck8_0v26_0 ck8_0v26_1 ck8_0v26_2
      have xk8_1v27 := k8_1v27.lt
      have ck8_1v27_0 := k8_1v27.cell 0
      simp at ck8_1v27_0
      have ck8_1v27_1 := k8_1v27.cell 1
      simp at ck8_1v27_1
      go_wp2_with fail
      ((with_reducible refine (heldSecret_b (hmP a0_0 a0_1 a0_2 a1_0) A7_1_0 c7_1_0 (hmS a0_0 a0_1 a0_2 a1_0) A7_1_1 c7_1_1 (1 + ((hmL a0_0 a0_1 a0_2 a1_0).length : Int)) _ ((f19_0v27).rd') ((f19_1v27).rd') (by omega) (by omega)).mono ?_); rintro e w28 ⟨rfl, hb28⟩)
      have s28 : w27.heap.size ≤ w28.heap.size := by have := hb28.size; simpa using this
      have B28 : Below w.heap.size w w28 := (B27).trans (hb28.mono (by first | omega | (simp <;> omega)))
      have k1_0v28 := (k1_0v27).st hb28
      have o4_0_0v28 := (o4_0_0v27).st hb28
      have k5_0v28 := (k5_0v27).st hb28
      have o4_1_0v28 := (o4_1_0v27).st hb28
      have o4_1_1v28 := (o4_1_1v27).st hb28
      have k5_1v28 := (k5_1v27).st hb28
      have f18_0v28 := (f18_0v27).st hb28
      have k8_0v28 := (k8_0v27).st hb28
      have f19_0v28 := (f19_0v27).st hb28
      have f19_1v28 := (f19_1v27).st hb28
      have k8_1v28 := (k8_1v27).st hb28
      have o24_0_0v28 := (o24_0_0v27).st hb28
      have k25_0v28 := (k25_0v27).st hb28
      have o24_1_0v28 := (o24_1_0v27).st hb28
      have o24_1_1v28 := (o24_1_1v27).st hb28
      have k25_1v28 := (k25_1v27).st hb28
      clear k1_0v27 o4_0_0v27 k5_0v27 o4_1_0v27 o4_1_1v27 k5_1v27 f18_0v27 k8_0v27 f19_0v27 f19_1v27 k8_1v27 o24_0_0v27 k25_0v27 o24_1_0v27 o24_1_1v27 k25_1v27 xk8_1v27 ck8_1v27_0 ck8_1v27_1
      go_wp2_with fail
      go_ret
      exact ⟨rfl, B28⟩
    · go_enter Try.func10, Try.ntmps10
      go_wp2_with fail
      ((with_reducible refine (szKeyBook_no a0_0 a0_1 a0_2 Aa0_2 ca0_2 1048576 _ (by omega) l0_0 (by omega)).mono ?_); rintro e w1 ⟨rfl, hb1⟩)
      have s1 : w.heap.size + 1 ≤ w1.heap.size := by have := hb1.size; simpa using this
      have B1 : Below w.heap.size w w1 := (((Below.refl w.heap.size w)).alloc (by first | omega | (simp <;> omega)) _).trans (hb1.mono (by first | omega | (simp <;> omega)))
      have k1_0 := (Bk.new w _ _).st hb1
      go_wp2_with fail
      go_ret
      exact ⟨rfl, B1⟩
  · go_enter Try.func10, Try.ntmps10
    go_wp2_with fail
    go_ret
    exact ⟨rfl, ((Below.refl w.heap.size w)).alloc (by first | omega | (simp <;> omega)) _⟩

end Go.Proofs.Ytdonggpcabkmlaa.fnExactHideMessage
