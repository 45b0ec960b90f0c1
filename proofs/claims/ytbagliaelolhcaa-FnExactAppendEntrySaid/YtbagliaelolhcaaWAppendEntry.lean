/-
  The walk through FnExactAppendEntry, call by call. Printed by a program of this claim's own. No conditions beyond the bounds of Go's slices.
-/
import Derived.Test.YtbagliaelolhcaaLawKit
import Derived.Test.YtbagliaelolhcaaAppE
import Derived.Test.YtbagliaelolhcaaMarkR
import Derived.Test.YtbagliaelolhcaaMarkH
import Derived.Test.YtbagliaelolhcaaMarkN
namespace Go.Proofs.Ytbagliaelolhcaa.fnExactAppendEntry
open Go.ChangeShapes Go.WideShapes Go.ChangeAt Go.RowKit
set_option linter.unusedVariables false

set_option maxRecDepth 100000 in
set_option maxHeartbeats 4000000 in
theorem walk (a0_0 : List Ent) (Aa0_0 : Option Addr) (ca0_0 : Nat) (a1_0 : Int) (a1_1 : Int) (a1_2 : Int) (a1_3 : List Int) (Aa1_3 : Option Addr) (ca1_3 : Nat) (a1_4 : List Int) (Aa1_4 : Option Addr) (ca1_4 : Nat) (w : World) (h0_0 : RdE w 0 w.heap.size Aa0_0 a0_0) (l0_0 : a0_0.length ≤ 9223372036854775807) (v0_0 : ∀ x ∈ a0_0, x.seen.length ≤ 9223372036854775807 ∧ x.shown.length ≤ 9223372036854775807) (h1_0 : Rd w 0 w.heap.size Aa1_3 a1_3) (l1_0 : a1_3.length ≤ 9223372036854775807) (h1_1 : Rd w 0 w.heap.size Aa1_4 a1_4) (l1_1 : a1_4.length ≤ 9223372036854775807) :
    Calls Try.prog 6 #[.slice Aa0_0 a0_0.length ca0_0, .agg #[.int .i64 a1_0, .int .i64 a1_1, .int .i64 a1_2, .slice Aa1_3 a1_3.length ca1_3, .slice Aa1_4 a1_4.length ca1_4]] w fun e w' => e = .returned (.bool true) ∧ Below w.heap.size w w' := by
  by_cases z0 : eszL a0_0 ≤ 1048576
  · skip
    by_cases z1 : eszL a0_0 + a1_3.length + a1_4.length ≤ 1048576
    · skip
      go_enter Try.func6, Try.ntmps6
      go_wp2_with fail
      ((with_reducible refine (szEntryS_yes a0_0 Aa0_0 ca0_0 1048576 _ (by omega) ((h0_0).alloc _) l0_0 v0_0 (by omega)).mono ?_); rintro e w1 ⟨rfl, hb1⟩)
      have s1 : w.heap.size + 1 ≤ w1.heap.size := by have := hb1.size; simpa using this
      have B1 : Below w.heap.size w w1 := (((Below.refl w.heap.size w)).alloc (by first | omega | (simp <;> omega)) _).trans (hb1.mono (by first | omega | (simp <;> omega)))
      have k1_0 := (Bk.new w _ _).st hb1
      have xk1_0 := k1_0.lt
      have ck1_0_0 := k1_0.cell 0
      simp at ck1_0_0
      have ck1_0_1 := k1_0.cell 1
      simp at ck1_0_1
      have ck1_0_2 := k1_0.cell 2
      simp at ck1_0_2
      have ck1_0_3 := k1_0.cell 3
      simp at ck1_0_3
      have ck1_0_4 := k1_0.cell 4
      simp at ck1_0_4
      go_wp2_with fail
      ((with_reducible refine (szEntry_yes a1_0 a1_1 a1_2 a1_3 Aa1_3 ca1_3 a1_4 Aa1_4 ca1_4 (1048576 - ((eszL a0_0 : Nat) : Int)) _ (by omega) l1_0 l1_1 (by omega)).mono ?_); rintro e w2 ⟨rfl, hb2⟩)
      have s2 : w1.heap.size ≤ w2.heap.size := by have := hb2.size; simpa using this
      have B2 : Below w.heap.size w w2 := (B1).trans (hb2.mono (by first | omega | (simp <;> omega)))
      have k1_0v2 := (k1_0).st hb2
      clear k1_0 xk1_0 ck1_0_0 ck1_0_1 ck1_0_2 ck1_0_3 ck1_0_4
      have xk1_0v2 := k1_0v2.lt
      have ck1_0v2_0 := k1_0v2.cell 0
      simp at ck1_0v2_0
      have ck1_0v2_1 := k1_0v2.cell 1
      simp at ck1_0v2_1
      have ck1_0v2_2 := k1_0v2.cell 2
      simp at ck1_0v2_2
      have ck1_0v2_3 := k1_0v2.cell 3
      simp at ck1_0v2_3
      have ck1_0v2_4 := k1_0v2.cell 4
      simp at ck1_0v2_4
      go_wp2_with fail
      go_region_held3 (fun w' => w'.cell? ⟨w.heap.size, 0, none⟩ = some (.int .i64 a1_0) ∧ w'.cell? ⟨w.heap.size, 1, none⟩ = some (.int .i64 a1_1) ∧ w'.cell? ⟨w.heap.size, 2, none⟩ = some (.int .i64 a1_2) ∧ w'.cell? ⟨w.heap.size, 3, none⟩ = some (.slice Aa1_3 a1_3.length ca1_3) ∧ w'.cell? ⟨w.heap.size, 4, none⟩ = some (.slice Aa1_4 a1_4.length ca1_4)) (first | go_keep | ((try go_split_ands); (try dsimp only); (repeat' apply And.intro) <;> (first | go_keep | ((refine (hc5 _ _ ?_).trans ?_) <;> first | assumption | omega | (simp <;> omega)) | ((refine (hc4 _ _ ?_).trans ?_) <;> first | assumption | omega | (simp <;> omega)) | ((refine (hc3 _ _ ?_).trans ?_) <;> first | assumption | omega | (simp <;> omega)) | ((with_reducible refine cell_realloc ?_ (by with_reducible assumption)) <;> first | (dsimp only; omega) | omega))))
        (first
          | (go_at_call 14; ((with_reducible refine (toEntryS_any a0_0 Aa0_0 ca0_0 _ (((h0_0.below B2 (Nat.le_refl _))).drew) (by omega)).mono ?_); rintro e w3 ⟨A3_0, c3_0, rfl, o3_0, hb3⟩; (have s3 : w2.heap.size ≤ w3.heap.size := by have := hb3.size; simpa using this); (have B3 : Below w.heap.size w w3 := ((B2).drew).trans (hb3.mono (by first | omega | (simp <;> omega)))); (have k1_0v3 := ((k1_0v2).drew).st hb3); (have hc3 := (bcell hb3).1)))
          | (go_at_call 25; ((with_reducible refine (toEntry_any a1_0 a1_1 a1_2 a1_3 Aa1_3 ca1_3 a1_4 Aa1_4 ca1_4 _ ((h1_0.below B3 (Nat.le_refl _))) ((h1_1.below B3 (Nat.le_refl _))) (by omega) (by omega)).mono ?_); rintro e w4 ⟨A4_0, c4_0, A4_1, c4_1, rfl, o4_0, o4_1, d4, hb4⟩; (have s4 : w3.heap.size ≤ w4.heap.size := by have := hb4.size; simpa using this); (have B4 : Below w.heap.size w w4 := (B3).trans (hb4.mono (by first | omega | (simp <;> omega)))); (have k1_0v4 := (k1_0v3).st hb4); (have o3_0v4 := (o3_0).st hb4); (have hc4 := (bcell hb4).1)))
          | (go_at_call 24; ((with_reducible refine (sAppendEntry_any a0_0 A3_0 c3_0 a1_0 a1_1 a1_2 a1_3 A4_0 c4_0 a1_4 A4_1 c4_1 _ ((o3_0v4).rd') ((o4_0).rd') ((o4_1).rd') (by omega) (by omega) (by omega) ).mono ?_); rintro e w5 ⟨A5_0_0, c5_0_0, rfl, o5_0_0, l5_0, hb5⟩; (have s5 : w4.heap.size ≤ w5.heap.size := by have := hb5.size; simpa using this); (have B5 : Below w.heap.size w w5 := (B4).trans (hb5.mono (by first | omega | (simp <;> omega)))); (have k1_0v5 := (k1_0v4).st hb5); (have o3_0v5 := (o3_0v4).st hb5); (have o4_0v5 := (o4_0).st hb5); (have o4_1v5 := (o4_1).st hb5); (have hc5 := (bcell hb5).1))))
      clear xk1_0v2 ck1_0v2_0 ck1_0v2_1 ck1_0v2_2 ck1_0v2_3 ck1_0v2_4
      go_wp2_with fail
      ((with_reducible refine (toEntryS_any a0_0 Aa0_0 ca0_0 _ ((h0_0.below B5 (Nat.le_refl _))) (by omega)).mono ?_); rintro e w6 ⟨A6_0, c6_0, rfl, o6_0, hb6⟩)
      have s6 : w5.heap.size ≤ w6.heap.size := by have := hb6.size; simpa using this
      have B6 : Below w.heap.size w w6 := (B5).trans (hb6.mono (by first | omega | (simp <;> omega)))
      have k1_0v6 := (k1_0v5).st hb6
      have o5_0_0v6 := (o5_0_0).st hb6
      clear k1_0v5 o5_0_0
      have xk1_0v6 := k1_0v6.lt
      have ck1_0v6_0 := k1_0v6.cell 0
      simp at ck1_0v6_0
      have ck1_0v6_1 := k1_0v6.cell 1
      simp at ck1_0v6_1
      have ck1_0v6_2 := k1_0v6.cell 2
      simp at ck1_0v6_2
      have ck1_0v6_3 := k1_0v6.cell 3
      simp at ck1_0v6_3
      have ck1_0v6_4 := k1_0v6.cell 4
      simp at ck1_0v6_4
      go_wp2_with fail
      ((with_reducible refine (toEntry_any a1_0 a1_1 a1_2 a1_3 Aa1_3 ca1_3 a1_4 Aa1_4 ca1_4 _ ((h1_0.below B6 (Nat.le_refl _))) ((h1_1.below B6 (Nat.le_refl _))) (by omega) (by omega)).mono ?_); rintro e w7 ⟨A7_0, c7_0, A7_1, c7_1, rfl, o7_0, o7_1, d7, hb7⟩)
      have s7 : w6.heap.size ≤ w7.heap.size := by have := hb7.size; simpa using this
      have B7 : Below w.heap.size w w7 := (B6).trans (hb7.mono (by first | omega | (simp <;> omega)))
      have k1_0v7 := (k1_0v6).st hb7
      have o5_0_0v7 := (o5_0_0v6).st hb7
      have o6_0v7 := (o6_0).st hb7
      clear k1_0v6 o5_0_0v6 o6_0 xk1_0v6 ck1_0v6_0 ck1_0v6_1 ck1_0v6_2 ck1_0v6_3 ck1_0v6_4
      go_wp2_with fail
      ((with_reducible refine (iAppendEntry_any a0_0 A6_0 c6_0 a1_0 a1_1 a1_2 a1_3 A7_0 c7_0 a1_4 A7_1 c7_1 _ (((o6_0v7).alloc _).rd') (((o7_0).alloc _).rd') (((o7_1).alloc _).rd') (by omega) (by omega) (by omega) (o6_0v7).cap).mono ?_); rintro e w8 ⟨A8_0_0, c8_0_0, rfl, o8_0_0, l8_0, hb8⟩)
      have s8 : w7.heap.size + 1 ≤ w8.heap.size := by have := hb8.size; simpa using this
      have B8 : Below w.heap.size w w8 := ((B7).alloc (by first | omega | (simp <;> omega)) _).trans (hb8.mono (by first | omega | (simp <;> omega)))
      have k1_0v8 := ((k1_0v7).alloc _).st hb8
      have o5_0_0v8 := ((o5_0_0v7).alloc _).st hb8
      have o6_0v8 := ((o6_0v7).alloc _).st hb8
      have o7_0v8 := ((o7_0).alloc _).st hb8
      have o7_1v8 := ((o7_1).alloc _).st hb8
      have k8_0 := (Bk.new w7 _ _).st hb8
      clear k1_0v7 o5_0_0v7 o6_0v7 o7_0 o7_1
      go_wp2_with fail
      ((with_reducible refine (eqEntryS_b (aeL a0_0 a1_0 a1_1 a1_2 a1_3 a1_4) A8_0_0 c8_0_0 (aeL a0_0 a1_0 a1_1 a1_2 a1_3 a1_4) A5_0_0 c5_0_0 _ ((o8_0_0).rd') o5_0_0v8 (by omega) (by omega)).mono ?_); rintro e w9 ⟨rfl, hb9⟩)
      have s9 : w8.heap.size ≤ w9.heap.size := by have := hb9.size; simpa using this
      have B9 : Below w.heap.size w w9 := (B8).trans (hb9.mono (by first | omega | (simp <;> omega)))
      have k1_0v9 := (k1_0v8).st hb9
      have o5_0_0v9 := (o5_0_0v8).st hb9
      have o6_0v9 := (o6_0v8).st hb9
      have o7_0v9 := (o7_0v8).st hb9
      have o7_1v9 := (o7_1v8).st hb9
      have k8_0v9 := (k8_0).st hb9
      have o8_0_0v9 := (o8_0_0).st hb9
      clear k1_0v8 o5_0_0v8 o6_0v8 o7_0v8 o7_1v8 k8_0 o8_0_0
      go_wp2_with fail
      ((with_reducible refine (toEntryS_any a0_0 Aa0_0 ca0_0 _ ((h0_0.below B9 (Nat.le_refl _))) (by omega)).mono ?_); rintro e w10 ⟨A10_0, c10_0, rfl, o10_0, hb10⟩)
      have s10 : w9.heap.size ≤ w10.heap.size := by have := hb10.size; simpa using this
      have B10 : Below w.heap.size w w10 := (B9).trans (hb10.mono (by first | omega | (simp <;> omega)))
      have k1_0v10 := (k1_0v9).st hb10
      have o5_0_0v10 := (o5_0_0v9).st hb10
      have o6_0v10 := (o6_0v9).st hb10
      have o7_0v10 := (o7_0v9).st hb10
      have o7_1v10 := (o7_1v9).st hb10
      have k8_0v10 := (k8_0v9).st hb10
      have o8_0_0v10 := (o8_0_0v9).st hb10
      clear k1_0v9 o5_0_0v9 o6_0v9 o7_0v9 o7_1v9 k8_0v9 o8_0_0v9
      go_wp2_with fail
      ((with_reducible refine (eqEntryS_b a0_0 A6_0 c6_0 a0_0 A10_0 c10_0 _ ((o6_0v10).rd') ((o10_0).rd') (by omega) (by omega)).mono ?_); rintro e w11 ⟨rfl, hb11⟩)
      have s11 : w10.heap.size ≤ w11.heap.size := by have := hb11.size; simpa using this
      have B11 : Below w.heap.size w w11 := (B10).trans (hb11.mono (by first | omega | (simp <;> omega)))
      have k1_0v11 := (k1_0v10).st hb11
      have o5_0_0v11 := (o5_0_0v10).st hb11
      have o6_0v11 := (o6_0v10).st hb11
      have o7_0v11 := (o7_0v10).st hb11
      have o7_1v11 := (o7_1v10).st hb11
      have k8_0v11 := (k8_0v10).st hb11
      have o8_0_0v11 := (o8_0_0v10).st hb11
      have o10_0v11 := (o10_0).st hb11
      clear k1_0v10 o5_0_0v10 o6_0v10 o7_0v10 o7_1v10 k8_0v10 o8_0_0v10 o10_0
      have hq0 := eqEn_self a1_0 a1_1 a1_2 a1_3 a1_4
      have xk8_0v11 := k8_0v11.lt
      have ck8_0v11_0 := k8_0v11.cell 0
      simp at ck8_0v11_0
      have ck8_0v11_1 := k8_0v11.cell 1
      simp at ck8_0v11_1
      have ck8_0v11_2 := k8_0v11.cell 2
      simp at ck8_0v11_2
      have ck8_0v11_3 := k8_0v11.cell 3
      simp at ck8_0v11_3
      have ck8_0v11_4 := k8_0v11.cell 4
      simp at ck8_0v11_4
      have xk1_0v11 := k1_0v11.lt
      have ck1_0v11_0 := k1_0v11.cell 0
      simp at ck1_0v11_0
      have ck1_0v11_1 := k1_0v11.cell 1
      simp at ck1_0v11_1
      have ck1_0v11_2 := k1_0v11.cell 2
      simp at ck1_0v11_2
      have ck1_0v11_3 := k1_0v11.cell 3
      simp at ck1_0v11_3
      have ck1_0v11_4 := k1_0v11.cell 4
      simp at ck1_0v11_4
      go_wp2_with fail
      go_region_held3 (fun w' => w'.cell? ⟨w7.heap.size, 0, none⟩ = some (.int .i64 a1_0) ∧ w'.cell? ⟨w7.heap.size, 1, none⟩ = some (.int .i64 a1_1) ∧ w'.cell? ⟨w7.heap.size, 2, none⟩ = some (.int .i64 a1_2) ∧ w'.cell? ⟨w7.heap.size, 3, none⟩ = some (.slice A7_0 a1_3.length c7_0) ∧ w'.cell? ⟨w7.heap.size, 4, none⟩ = some (.slice A7_1 a1_4.length c7_1) ∧ w'.cell? ⟨w.heap.size, 0, none⟩ = some (.int .i64 a1_0) ∧ w'.cell? ⟨w.heap.size, 1, none⟩ = some (.int .i64 a1_1) ∧ w'.cell? ⟨w.heap.size, 2, none⟩ = some (.int .i64 a1_2) ∧ w'.cell? ⟨w.heap.size, 3, none⟩ = some (.slice Aa1_3 a1_3.length ca1_3) ∧ w'.cell? ⟨w.heap.size, 4, none⟩ = some (.slice Aa1_4 a1_4.length ca1_4)) (first | go_keep | ((try go_split_ands); (try dsimp only); (repeat' apply And.intro) <;> (first | go_keep | ((refine (hc13 _ _ ?_).trans ?_) <;> first | assumption | omega | (simp <;> omega)) | ((refine (hc12 _ _ ?_).trans ?_) <;> first | assumption | omega | (simp <;> omega)) | ((with_reducible refine cell_realloc ?_ (by with_reducible assumption)) <;> first | (dsimp only; omega) | omega))))
        (first
          | (go_at_call 25; ((with_reducible refine (toEntry_any a1_0 a1_1 a1_2 a1_3 Aa1_3 ca1_3 a1_4 Aa1_4 ca1_4 _ (((h1_0.below B11 (Nat.le_refl _))).drew) (((h1_1.below B11 (Nat.le_refl _))).drew) (by omega) (by omega)).mono ?_); rintro e w12 ⟨A12_0, c12_0, A12_1, c12_1, rfl, o12_0, o12_1, d12, hb12⟩; (have s12 : w11.heap.size ≤ w12.heap.size := by have := hb12.size; simpa using this); (have B12 : Below w.heap.size w w12 := ((B11).drew).trans (hb12.mono (by first | omega | (simp <;> omega)))); (have k1_0v12 := ((k1_0v11).drew).st hb12); (have o5_0_0v12 := ((o5_0_0v11).drew).st hb12); (have o6_0v12 := ((o6_0v11).drew).st hb12); (have o7_0v12 := ((o7_0v11).drew).st hb12); (have o7_1v12 := ((o7_1v11).drew).st hb12); (have k8_0v12 := ((k8_0v11).drew).st hb12); (have o8_0_0v12 := ((o8_0_0v11).drew).st hb12); (have hc12 := (bcell hb12).1)))
          | (go_at_call 27; ((with_reducible refine (eqEntry_b a1_0 a1_1 a1_2 a1_3 A7_0 c7_0 a1_4 A7_1 c7_1 a1_0 a1_1 a1_2 a1_3 A12_0 c12_0 a1_4 A12_1 c12_1 _ ((o7_0v12).rd') ((o7_1v12).rd') ((o12_0).rd') ((o12_1).rd') (by omega) (by omega) (by omega) (by omega)).mono ?_); rintro e w13 ⟨rfl, hb13⟩; (have s13 : w12.heap.size ≤ w13.heap.size := by have := hb13.size; simpa using this); (have B13 : Below w.heap.size w w13 := (B12).trans (hb13.mono (by first | omega | (simp <;> omega)))); (have k1_0v13 := (k1_0v12).st hb13); (have o5_0_0v13 := (o5_0_0v12).st hb13); (have o6_0v13 := (o6_0v12).st hb13); (have o7_0v13 := (o7_0v12).st hb13); (have o7_1v13 := (o7_1v12).st hb13); (have k8_0v13 := (k8_0v12).st hb13); (have o8_0_0v13 := (o8_0_0v12).st hb13); (have o12_0v13 := (o12_0).st hb13); (have o12_1v13 := (o12_1).st hb13); (have hc13 := (bcell hb13).1))))
      clear xk8_0v11 ck8_0v11_0 ck8_0v11_1 ck8_0v11_2 ck8_0v11_3 ck8_0v11_4 xk1_0v11 ck1_0v11_0 ck1_0v11_1 ck1_0v11_2 ck1_0v11_3 ck1_0v11_4
      go_wp2_with fail
      ((with_reducible refine (markEntryS_r a0_0 A6_0 c6_0 1 _ o6_0v13 (by omega) (by omega)).mono ?_); rintro e w14 ⟨r14, rfl, g14, G14, hb14⟩)
      have s14 : w13.heap.size ≤ w14.heap.size := by have := hb14.size; simpa using this
      have B14 : Below w.heap.size w w14 := (B13).trans (hb14.below (by first | omega | (simp <;> omega)) (by first | omega | (simp <;> omega)))
      have k1_0v14 := (k1_0v13).fr hb14 (by first | omega | (simp <;> omega))
      have o5_0_0v14 := (o5_0_0v13).fr hb14 (by first | omega | (simp <;> omega))
      have o7_0v14 := (o7_0v13).fr hb14 (by first | omega | (simp <;> omega))
      have o7_1v14 := (o7_1v13).fr hb14 (by first | omega | (simp <;> omega))
      have k8_0v14 := (k8_0v13).fr hb14 (by first | omega | (simp <;> omega))
      have o8_0_0v14 := (o8_0_0v13).fr hb14 (by first | omega | (simp <;> omega))
      clear k1_0v13 o5_0_0v13 o7_0v13 o7_1v13 k8_0v13 o8_0_0v13
      have xk8_0v14 := k8_0v14.lt
      have ck8_0v14_0 := k8_0v14.cell 0
      simp at ck8_0v14_0
      have ck8_0v14_1 := k8_0v14.cell 1
      simp at ck8_0v14_1
      have ck8_0v14_2 := k8_0v14.cell 2
      simp at ck8_0v14_2
      have ck8_0v14_3 := k8_0v14.cell 3
      simp at ck8_0v14_3
      have ck8_0v14_4 := k8_0v14.cell 4
      simp at ck8_0v14_4
      go_wp2_with fail
      ((with_reducible refine (markEntry_b a1_0 a1_1 a1_2 a1_3 A7_0 c7_0 a1_4 A7_1 c7_1 r14 _ o7_0v14 o7_1v14 d7 (by omega) (by omega)).mono ?_); rintro e w15 ⟨rfl, f15_0, f15_1, hb15⟩)
      have s15 : w14.heap.size ≤ w15.heap.size := by have := hb15.size; simpa using this
      have B15 : Below w.heap.size w w15 := (B14).trans (hb15.below (by first | omega | (simp <;> omega)) (by first | omega | (simp <;> omega)))
      have k1_0v15 := (k1_0v14).fr hb15 (by first | omega | (simp <;> omega))
      have o5_0_0v15 := (o5_0_0v14).fr hb15 (by first | omega | (simp <;> omega))
      have k8_0v15 := (k8_0v14).fr hb15 (by first | omega | (simp <;> omega))
      have o8_0_0v15 := (o8_0_0v14).fr hb15 (by first | omega | (simp <;> omega))
      clear k1_0v14 o5_0_0v14 k8_0v14 o8_0_0v14 xk8_0v14 ck8_0v14_0 ck8_0v14_1 ck8_0v14_2 ck8_0v14_3 ck8_0v14_4
      go_wp2_with fail
      ((with_reducible refine (eqEntryS_b (aeL a0_0 a1_0 a1_1 a1_2 a1_3 a1_4) A8_0_0 c8_0_0 (aeL a0_0 a1_0 a1_1 a1_2 a1_3 a1_4) A5_0_0 c5_0_0 _ ((o8_0_0v15).rd') o5_0_0v15 (by omega) (by omega)).mono ?_); rintro e w16 ⟨rfl, hb16⟩)
      have s16 : w15.heap.size ≤ w16.heap.size := by have := hb16.size; simpa using this
      have B16 : Below w.heap.size w w16 := (B15).trans (hb16.mono (by first | omega | (simp <;> omega)))
      have k1_0v16 := (k1_0v15).st hb16
      have o5_0_0v16 := (o5_0_0v15).st hb16
      have o8_0_0v16 := (o8_0_0v15).st hb16
      clear k1_0v15 o5_0_0v15 o8_0_0v15
      go_wp2_with fail
      ((with_reducible refine (markEntryS_b (aeL a0_0 a1_0 a1_1 a1_2 a1_3 a1_4) A8_0_0 c8_0_0 1 _ o8_0_0v16 (by omega) (by omega)).mono ?_); rintro e w17 ⟨rfl, f17_0, hb17⟩)
      have s17 : w16.heap.size ≤ w17.heap.size := by have := hb17.size; simpa using this
      have B17 : Below w.heap.size w w17 := (B16).trans (hb17.below (by first | omega | (simp <;> omega)) (by first | omega | (simp <;> omega)))
      have k1_0v17 := (k1_0v16).fr hb17 (by first | omega | (simp <;> omega))
      have o5_0_0v17 := (o5_0_0v16).fr hb17 (by first | omega | (simp <;> omega))
      clear k1_0v16 o5_0_0v16
      go_wp2_with fail
      ((with_reducible refine (heldEntryS_b (aeL a0_0 a1_0 a1_1 a1_2 a1_3 a1_4) A8_0_0 c8_0_0 1 _ ((f17_0).rd') (by omega) (by omega)).mono ?_); rintro e w18 ⟨rfl, hb18⟩)
      have s18 : w17.heap.size ≤ w18.heap.size := by have := hb18.size; simpa using this
      have B18 : Below w.heap.size w w18 := (B17).trans (hb18.mono (by first | omega | (simp <;> omega)))
      have k1_0v18 := (k1_0v17).st hb18
      have o5_0_0v18 := (o5_0_0v17).st hb18
      have f17_0v18 := (f17_0).st hb18
      clear k1_0v17 o5_0_0v17 f17_0
      have xk1_0v18 := k1_0v18.lt
      have ck1_0v18_0 := k1_0v18.cell 0
      simp at ck1_0v18_0
      have ck1_0v18_1 := k1_0v18.cell 1
      simp at ck1_0v18_1
      have ck1_0v18_2 := k1_0v18.cell 2
      simp at ck1_0v18_2
      have ck1_0v18_3 := k1_0v18.cell 3
      simp at ck1_0v18_3
      have ck1_0v18_4 := k1_0v18.cell 4
      simp at ck1_0v18_4
      go_wp2_with fail
      go_region_held3 (fun w' => w'.cell? ⟨w.heap.size, 0, none⟩ = some (.int .i64 a1_0) ∧ w'.cell? ⟨w.heap.size, 1, none⟩ = some (.int .i64 a1_1) ∧ w'.cell? ⟨w.heap.size, 2, none⟩ = some (.int .i64 a1_2) ∧ w'.cell? ⟨w.heap.size, 3, none⟩ = some (.slice Aa1_3 a1_3.length ca1_3) ∧ w'.cell? ⟨w.heap.size, 4, none⟩ = some (.slice Aa1_4 a1_4.length ca1_4)) (first | go_keep | ((try go_split_ands); (try dsimp only); (repeat' apply And.intro) <;> (first | go_keep | ((refine (hc21 _ _ ?_).trans ?_) <;> first | assumption | omega | (simp <;> omega)) | ((refine (hc20 _ _ ?_).trans ?_) <;> first | assumption | omega | (simp <;> omega)) | ((refine (hc19 _ _ ?_).trans ?_) <;> first | assumption | omega | (simp <;> omega)) | ((with_reducible refine cell_realloc ?_ (by with_reducible assumption)) <;> first | (dsimp only; omega) | omega))))
        (first
          | (go_at_call 14; ((with_reducible refine (toEntryS_any a0_0 Aa0_0 ca0_0 _ (((h0_0.below B18 (Nat.le_refl _))).drew) (by omega)).mono ?_); rintro e w19 ⟨A19_0, c19_0, rfl, o19_0, hb19⟩; (have s19 : w18.heap.size ≤ w19.heap.size := by have := hb19.size; simpa using this); (have B19 : Below w.heap.size w w19 := ((B18).drew).trans (hb19.mono (by first | omega | (simp <;> omega)))); (have k1_0v19 := ((k1_0v18).drew).st hb19); (have o5_0_0v19 := ((o5_0_0v18).drew).st hb19); (have f17_0v19 := ((f17_0v18).drew).st hb19); (have hc19 := (bcell hb19).1)))
          | (go_at_call 25; ((with_reducible refine (toEntry_any a1_0 a1_1 a1_2 a1_3 Aa1_3 ca1_3 a1_4 Aa1_4 ca1_4 _ ((h1_0.below B19 (Nat.le_refl _))) ((h1_1.below B19 (Nat.le_refl _))) (by omega) (by omega)).mono ?_); rintro e w20 ⟨A20_0, c20_0, A20_1, c20_1, rfl, o20_0, o20_1, d20, hb20⟩; (have s20 : w19.heap.size ≤ w20.heap.size := by have := hb20.size; simpa using this); (have B20 : Below w.heap.size w w20 := (B19).trans (hb20.mono (by first | omega | (simp <;> omega)))); (have k1_0v20 := (k1_0v19).st hb20); (have o5_0_0v20 := (o5_0_0v19).st hb20); (have f17_0v20 := (f17_0v19).st hb20); (have o19_0v20 := (o19_0).st hb20); (have hc20 := (bcell hb20).1)))
          | (go_at_call 26; ((with_reducible refine (iAppendEntry_any a0_0 A19_0 c19_0 a1_0 a1_1 a1_2 a1_3 A20_0 c20_0 a1_4 A20_1 c20_1 _ ((o19_0v20).rd') ((o20_0).rd') ((o20_1).rd') (by omega) (by omega) (by omega) (o19_0v20).cap).mono ?_); rintro e w21 ⟨A21_0_0, c21_0_0, rfl, o21_0_0, l21_0, hb21⟩; (have s21 : w20.heap.size ≤ w21.heap.size := by have := hb21.size; simpa using this); (have B21 : Below w.heap.size w w21 := (B20).trans (hb21.mono (by first | omega | (simp <;> omega)))); (have k1_0v21 := (k1_0v20).st hb21); (have o5_0_0v21 := (o5_0_0v20).st hb21); (have f17_0v21 := (f17_0v20).st hb21); (have o19_0v21 := (o19_0v20).st hb21); (have o20_0v21 := (o20_0).st hb21); (have o20_1v21 := (o20_1).st hb21); (have hc21 := (bcell hb21).1))))
      clear xk1_0v18 ck1_0v18_0 ck1_0v18_1 ck1_0v18_2 ck1_0v18_3 ck1_0v18_4
      go_wp2_with fail
      ((with_reducible refine (eqEntryS_b (aeL a0_0 a1_0 a1_1 a1_2 a1_3 a1_4) A21_0_0 c21_0_0 (aeL a0_0 a1_0 a1_1 a1_2 a1_3 a1_4) A5_0_0 c5_0_0 _ ((o21_0_0).rd') o5_0_0v21 (by omega) (by omega)).mono ?_); rintro e w22 ⟨rfl, hb22⟩)
      have s22 : w21.heap.size ≤ w22.heap.size := by have := hb22.size; simpa using this
      have B22 : Below w.heap.size w w22 := (B21).trans (hb22.mono (by first | omega | (simp <;> omega)))
      have k1_0v22 := (k1_0v21).st hb22
      have o5_0_0v22 := (o5_0_0v21).st hb22
      have f17_0v22 := (f17_0v21).st hb22
      have o21_0_0v22 := (o21_0_0).st hb22
      clear k1_0v21 o5_0_0v21 f17_0v21 o21_0_0
      go_wp2_with fail
      ((with_reducible refine (heldEntryS_b (aeL a0_0 a1_0 a1_1 a1_2 a1_3 a1_4) A8_0_0 c8_0_0 1 _ ((f17_0v22).rd') (by omega) (by omega)).mono ?_); rintro e w23 ⟨rfl, hb23⟩)
      have s23 : w22.heap.size ≤ w23.heap.size := by have := hb23.size; simpa using this
      have B23 : Below w.heap.size w w23 := (B22).trans (hb23.mono (by first | omega | (simp <;> omega)))
      have k1_0v23 := (k1_0v22).st hb23
      have o5_0_0v23 := (o5_0_0v22).st hb23
      have f17_0v23 := (f17_0v22).st hb23
      have o21_0_0v23 := (o21_0_0v22).st hb23
      clear k1_0v22 o5_0_0v22 f17_0v22 o21_0_0v22
      go_wp2_with fail
      go_ret
      exact ⟨rfl, B23⟩
    · go_enter Try.func6, Try.ntmps6
      go_wp2_with fail
      ((with_reducible refine (szEntryS_yes a0_0 Aa0_0 ca0_0 1048576 _ (by omega) ((h0_0).alloc _) l0_0 v0_0 (by omega)).mono ?_); rintro e w1 ⟨rfl, hb1⟩)
      have s1 : w.heap.size + 1 ≤ w1.heap.size := by have := hb1.size; simpa using this
      have B1 : Below w.heap.size w w1 := (((Below.refl w.heap.size w)).alloc (by first | omega | (simp <;> omega)) _).trans (hb1.mono (by first | omega | (simp <;> omega)))
      have k1_0 := (Bk.new w _ _).st hb1
      have xk1_0 := k1_0.lt
      have ck1_0_0 := k1_0.cell 0
      simp at ck1_0_0
      have ck1_0_1 := k1_0.cell 1
      simp at ck1_0_1
      have ck1_0_2 := k1_0.cell 2
      simp at ck1_0_2
      have ck1_0_3 := k1_0.cell 3
      simp at ck1_0_3
      have ck1_0_4 := k1_0.cell 4
      simp at ck1_0_4
      go_wp2_with fail
      ((with_reducible refine (szEntry_no a1_0 a1_1 a1_2 a1_3 Aa1_3 ca1_3 a1_4 Aa1_4 ca1_4 (1048576 - ((eszL a0_0 : Nat) : Int)) _ (by omega) l1_0 l1_1 (by omega)).mono ?_); rintro e w2 ⟨rfl, hb2⟩)
      have s2 : w1.heap.size ≤ w2.heap.size := by have := hb2.size; simpa using this
      have B2 : Below w.heap.size w w2 := (B1).trans (hb2.mono (by first | omega | (simp <;> omega)))
      have k1_0v2 := (k1_0).st hb2
      clear k1_0 xk1_0 ck1_0_0 ck1_0_1 ck1_0_2 ck1_0_3 ck1_0_4
      go_wp2_with fail
      go_ret
      exact ⟨rfl, B2⟩
  · go_enter Try.func6, Try.ntmps6
    go_wp2_with fail
    ((with_reducible refine (szEntryS_no a0_0 Aa0_0 ca0_0 1048576 _ (by omega) ((h0_0).alloc _) l0_0 v0_0 (by omega)).mono ?_); rintro e w1 ⟨rfl, hb1⟩)
    have s1 : w.heap.size + 1 ≤ w1.heap.size := by have := hb1.size; simpa using this
    have B1 : Below w.heap.size w w1 := (((Below.refl w.heap.size w)).alloc (by first | omega | (simp <;> omega)) _).trans (hb1.mono (by first | omega | (simp <;> omega)))
    have k1_0 := (Bk.new w _ _).st hb1
    go_wp2_with fail
    go_ret
    exact ⟨rfl, B1⟩

end Go.Proofs.Ytbagliaelolhcaa.fnExactAppendEntry
