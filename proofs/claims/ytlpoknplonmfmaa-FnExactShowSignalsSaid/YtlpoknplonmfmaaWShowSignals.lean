/-
  The walk through FnExactShowSignals, call by call. Printed by a program of this claim's own. No conditions beyond the bounds of Go's slices.
-/
import Derived.Test.YtlpoknplonmfmaaLawKit
import Derived.Test.YtlpoknplonmfmaaHide
namespace Go.Proofs.Ytlpoknplonmfmaa.fnExactShowSignals
open Go.ChangeShapes Go.WideShapes Go.ChangeAt Go.RowKit
set_option linter.unusedVariables false

set_option maxRecDepth 100000 in
set_option maxHeartbeats 4000000 in
theorem walk (a0_0 : Int) (a0_1 : Int) (a0_2 : List Int) (Aa0_2 : Option Addr) (ca0_2 : Nat) (a1_0 : Int) (a2_0 : List Int) (Aa2_0 : Option Addr) (ca2_0 : Nat) (w : World) (h0_0 : Rd w 0 w.heap.size Aa0_2 a0_2) (l0_0 : a0_2.length ≤ 9223372036854775807) (h2_0 : Rd w 0 w.heap.size Aa2_0 a2_0) (l2_0 : a2_0.length ≤ 9223372036854775807) :
    Calls Try.prog 4 #[.agg #[.int .i64 a0_0, .int .i64 a0_1, .slice Aa0_2 a0_2.length ca0_2], .int .i64 a1_0, .slice Aa2_0 a2_0.length ca2_0] w fun e w' => e = .returned (.bool true) ∧ Below w.heap.size w w' := by
  by_cases z0 : a2_0.length ≤ 1048576
  · skip
    by_cases z1 : a0_2.length ≤ 1048576
    · skip
      go_enter Try.func4, Try.ntmps4
      go_wp2_with fail
      ((with_reducible refine (szKeyBook_yes a0_0 a0_1 a0_2 Aa0_2 ca0_2 1048576 _ (by omega) l0_0 (by omega)).mono ?_); rintro e w1 ⟨rfl, hb1⟩)
      have s1 : w.heap.size + 1 ≤ w1.heap.size := by have := hb1.size; simpa using this
      have B1 : Below w.heap.size w w1 := (((Below.refl w.heap.size w)).alloc (by first | omega | (simp <;> omega)) _).trans (hb1.mono (by first | omega | (simp <;> omega)))
      have k1_0 := (Bk.new w _ _).st hb1
      have xk1_0 := k1_0.lt
      have ck1_0_0 := k1_0.cell 0
      simp at ck1_0_0
      have ck1_0_1 := k1_0.cell 1
      simp at ck1_0_1
      have ck1_0_2 := k1_0.cell 2
      simp at ck1_0_2
      go_wp2_with fail
      ((with_reducible refine (toKeyBook_any a0_0 a0_1 a0_2 Aa0_2 ca0_2 _ ((h0_0.below B1 (Nat.le_refl _))) (by omega)).mono ?_); rintro e w2 ⟨A2_0, c2_0, rfl, o2_0, hb2⟩)
      have s2 : w1.heap.size ≤ w2.heap.size := by have := hb2.size; simpa using this
      have B2 : Below w.heap.size w w2 := (B1).trans (hb2.mono (by first | omega | (simp <;> omega)))
      have k1_0v2 := (k1_0).st hb2
      clear k1_0 xk1_0 ck1_0_0 ck1_0_1 ck1_0_2
      go_wp2_with fail
      ((with_reducible refine (toIntS_b a2_0 Aa2_0 ca2_0 _ ((h2_0.below B2 (Nat.le_refl _))) (by omega)).mono ?_); rintro e w3 ⟨A3_0, c3_0, rfl, o3_0, hb3⟩)
      have s3 : w2.heap.size ≤ w3.heap.size := by have := hb3.size; simpa using this
      have B3 : Below w.heap.size w w3 := (B2).trans (hb3.mono (by first | omega | (simp <;> omega)))
      have k1_0v3 := (k1_0v2).st hb3
      have o2_0v3 := (o2_0).st hb3
      clear k1_0v2 o2_0
      go_wp2_with fail
      ((with_reducible refine (sShowSignals_any a0_0 a0_1 a0_2 A2_0 c2_0 a1_0 a2_0 A3_0 c3_0 _ ((o2_0v3).rd') ((o3_0).rd') (by omega) (by omega) ).mono ?_); rintro e w4 ⟨A4_0_0, c4_0_0, rfl, o4_0_0, l4_0, hb4⟩)
      have s4 : w3.heap.size ≤ w4.heap.size := by have := hb4.size; simpa using this
      have B4 : Below w.heap.size w w4 := (B3).trans (hb4.mono (by first | omega | (simp <;> omega)))
      have k1_0v4 := (k1_0v3).st hb4
      have o2_0v4 := (o2_0v3).st hb4
      have o3_0v4 := (o3_0).st hb4
      clear k1_0v3 o2_0v3 o3_0
      have xk1_0v4 := k1_0v4.lt
      have ck1_0v4_0 := k1_0v4.cell 0
      simp at ck1_0v4_0
      have ck1_0v4_1 := k1_0v4.cell 1
      simp at ck1_0v4_1
      have ck1_0v4_2 := k1_0v4.cell 2
      simp at ck1_0v4_2
      go_wp2_with fail
      ((with_reducible refine (toKeyBook_any a0_0 a0_1 a0_2 Aa0_2 ca0_2 _ ((h0_0.below B4 (Nat.le_refl _))) (by omega)).mono ?_); rintro e w5 ⟨A5_0, c5_0, rfl, o5_0, hb5⟩)
      have s5 : w4.heap.size ≤ w5.heap.size := by have := hb5.size; simpa using this
      have B5 : Below w.heap.size w w5 := (B4).trans (hb5.mono (by first | omega | (simp <;> omega)))
      have k1_0v5 := (k1_0v4).st hb5
      have o4_0_0v5 := (o4_0_0).st hb5
      clear k1_0v4 o4_0_0 xk1_0v4 ck1_0v4_0 ck1_0v4_1 ck1_0v4_2
      go_wp2_with fail
      ((with_reducible refine (toIntS_b a2_0 Aa2_0 ca2_0 _ (((h2_0.below B5 (Nat.le_refl _))).alloc _) (by omega)).mono ?_); rintro e w6 ⟨A6_0, c6_0, rfl, o6_0, hb6⟩)
      have s6 : w5.heap.size + 1 ≤ w6.heap.size := by have := hb6.size; simpa using this
      have B6 : Below w.heap.size w w6 := ((B5).alloc (by first | omega | (simp <;> omega)) _).trans (hb6.mono (by first | omega | (simp <;> omega)))
      have k1_0v6 := ((k1_0v5).alloc _).st hb6
      have o4_0_0v6 := ((o4_0_0v5).alloc _).st hb6
      have o5_0v6 := ((o5_0).alloc _).st hb6
      have k6_0 := (Bk.new w5 _ _).st hb6
      clear k1_0v5 o4_0_0v5 o5_0
      have xk6_0 := k6_0.lt
      have ck6_0_0 := k6_0.cell 0
      simp at ck6_0_0
      have ck6_0_1 := k6_0.cell 1
      simp at ck6_0_1
      have ck6_0_2 := k6_0.cell 2
      simp at ck6_0_2
      go_wp2_with fail
      ((with_reducible refine (iShowSignals_any a0_0 a0_1 a0_2 A5_0 c5_0 a1_0 a2_0 A6_0 c6_0 _ ((o5_0v6).rd') ((o6_0).rd') (by omega) (by omega) ).mono ?_); rintro e w7 ⟨A7_0_0, c7_0_0, rfl, o7_0_0, l7_0, hb7⟩)
      have s7 : w6.heap.size ≤ w7.heap.size := by have := hb7.size; simpa using this
      have B7 : Below w.heap.size w w7 := (B6).trans (hb7.mono (by first | omega | (simp <;> omega)))
      have k1_0v7 := (k1_0v6).st hb7
      have o4_0_0v7 := (o4_0_0v6).st hb7
      have o5_0v7 := (o5_0v6).st hb7
      have k6_0v7 := (k6_0).st hb7
      have o6_0v7 := (o6_0).st hb7
      clear k1_0v6 o4_0_0v6 o5_0v6 k6_0 o6_0 xk6_0 ck6_0_0 ck6_0_1 ck6_0_2
      have hq0 := eqL_self (hsL (-1) a0_0 a0_1 a0_2 a1_0 a2_0)
      go_wp2_with fail
      ((with_reducible refine (eqIntS_b (hsL (-1) a0_0 a0_1 a0_2 a1_0 a2_0) A7_0_0 c7_0_0 (hsL (-1) a0_0 a0_1 a0_2 a1_0 a2_0) A4_0_0 c4_0_0 _ ((o7_0_0).rd') o4_0_0v7 (by omega) (by omega)).mono ?_); rintro e w8 ⟨rfl, hb8⟩)
      have s8 : w7.heap.size ≤ w8.heap.size := by have := hb8.size; simpa using this
      have B8 : Below w.heap.size w w8 := (B7).trans (hb8.mono (by first | omega | (simp <;> omega)))
      have k1_0v8 := (k1_0v7).st hb8
      have o4_0_0v8 := (o4_0_0v7).st hb8
      have o5_0v8 := (o5_0v7).st hb8
      have k6_0v8 := (k6_0v7).st hb8
      have o6_0v8 := (o6_0v7).st hb8
      have o7_0_0v8 := (o7_0_0).st hb8
      clear k1_0v7 o4_0_0v7 o5_0v7 k6_0v7 o6_0v7 o7_0_0
      have hq1 := eqKb_self a0_0 a0_1 a0_2
      have xk6_0v8 := k6_0v8.lt
      have ck6_0v8_0 := k6_0v8.cell 0
      simp at ck6_0v8_0
      have ck6_0v8_1 := k6_0v8.cell 1
      simp at ck6_0v8_1
      have ck6_0v8_2 := k6_0v8.cell 2
      simp at ck6_0v8_2
      have xk1_0v8 := k1_0v8.lt
      have ck1_0v8_0 := k1_0v8.cell 0
      simp at ck1_0v8_0
      have ck1_0v8_1 := k1_0v8.cell 1
      simp at ck1_0v8_1
      have ck1_0v8_2 := k1_0v8.cell 2
      simp at ck1_0v8_2
      go_wp2_with fail
      go_region_held3 (fun w' => w'.cell? ⟨w5.heap.size, 0, none⟩ = some (.int .i64 a0_0) ∧ w'.cell? ⟨w5.heap.size, 1, none⟩ = some (.int .i64 a0_1) ∧ w'.cell? ⟨w5.heap.size, 2, none⟩ = some (.slice A5_0 a0_2.length c5_0) ∧ w'.cell? ⟨w.heap.size, 0, none⟩ = some (.int .i64 a0_0) ∧ w'.cell? ⟨w.heap.size, 1, none⟩ = some (.int .i64 a0_1) ∧ w'.cell? ⟨w.heap.size, 2, none⟩ = some (.slice Aa0_2 a0_2.length ca0_2)) (first | go_keep | ((try go_split_ands); (try dsimp only); (repeat' apply And.intro) <;> (first | go_keep | ((refine (hc10 _ _ ?_).trans ?_) <;> first | assumption | omega | (simp <;> omega)) | ((refine (hc9 _ _ ?_).trans ?_) <;> first | assumption | omega | (simp <;> omega)))))
        (first
          | (go_at_call 17; ((with_reducible refine (toKeyBook_any a0_0 a0_1 a0_2 Aa0_2 ca0_2 _ (((h0_0.below B8 (Nat.le_refl _))).drew) (by omega)).mono ?_); rintro e w9 ⟨A9_0, c9_0, rfl, o9_0, hb9⟩; (have s9 : w8.heap.size ≤ w9.heap.size := by have := hb9.size; simpa using this); (have B9 : Below w.heap.size w w9 := ((B8).drew).trans (hb9.mono (by first | omega | (simp <;> omega)))); (have k1_0v9 := ((k1_0v8).drew).st hb9); (have o4_0_0v9 := ((o4_0_0v8).drew).st hb9); (have o5_0v9 := ((o5_0v8).drew).st hb9); (have k6_0v9 := ((k6_0v8).drew).st hb9); (have o6_0v9 := ((o6_0v8).drew).st hb9); (have o7_0_0v9 := ((o7_0_0v8).drew).st hb9); (have hc9 := (bcell hb9).1)))
          | (go_at_call 21; ((with_reducible refine (eqKeyBook_b a0_0 a0_1 a0_2 A5_0 c5_0 a0_0 a0_1 a0_2 A9_0 c9_0 _ ((o5_0v9).rd') ((o9_0).rd') (by omega) (by omega)).mono ?_); rintro e w10 ⟨rfl, hb10⟩; (have s10 : w9.heap.size ≤ w10.heap.size := by have := hb10.size; simpa using this); (have B10 : Below w.heap.size w w10 := (B9).trans (hb10.mono (by first | omega | (simp <;> omega)))); (have k1_0v10 := (k1_0v9).st hb10); (have o4_0_0v10 := (o4_0_0v9).st hb10); (have o5_0v10 := (o5_0v9).st hb10); (have k6_0v10 := (k6_0v9).st hb10); (have o6_0v10 := (o6_0v9).st hb10); (have o7_0_0v10 := (o7_0_0v9).st hb10); (have o9_0v10 := (o9_0).st hb10); (have hc10 := (bcell hb10).1))))
      clear xk6_0v8 ck6_0v8_0 ck6_0v8_1 ck6_0v8_2 xk1_0v8 ck1_0v8_0 ck1_0v8_1 ck1_0v8_2
      have hq2 := eqL_self a2_0
      go_wp2_with fail
      ((with_reducible refine (toIntS_b a2_0 Aa2_0 ca2_0 _ ((h2_0.below B10 (Nat.le_refl _))) (by omega)).mono ?_); rintro e w11 ⟨A11_0, c11_0, rfl, o11_0, hb11⟩)
      have s11 : w10.heap.size ≤ w11.heap.size := by have := hb11.size; simpa using this
      have B11 : Below w.heap.size w w11 := (B10).trans (hb11.mono (by first | omega | (simp <;> omega)))
      have k1_0v11 := (k1_0v10).st hb11
      have o4_0_0v11 := (o4_0_0v10).st hb11
      have o5_0v11 := (o5_0v10).st hb11
      have k6_0v11 := (k6_0v10).st hb11
      have o6_0v11 := (o6_0v10).st hb11
      have o7_0_0v11 := (o7_0_0v10).st hb11
      clear k1_0v10 o4_0_0v10 o5_0v10 k6_0v10 o6_0v10 o7_0_0v10
      go_wp2_with fail
      ((with_reducible refine (eqIntS_b a2_0 A6_0 c6_0 a2_0 A11_0 c11_0 _ ((o6_0v11).rd') ((o11_0).rd') (by omega) (by omega)).mono ?_); rintro e w12 ⟨rfl, hb12⟩)
      have s12 : w11.heap.size ≤ w12.heap.size := by have := hb12.size; simpa using this
      have B12 : Below w.heap.size w w12 := (B11).trans (hb12.mono (by first | omega | (simp <;> omega)))
      have k1_0v12 := (k1_0v11).st hb12
      have o4_0_0v12 := (o4_0_0v11).st hb12
      have o5_0v12 := (o5_0v11).st hb12
      have k6_0v12 := (k6_0v11).st hb12
      have o6_0v12 := (o6_0v11).st hb12
      have o7_0_0v12 := (o7_0_0v11).st hb12
      have o11_0v12 := (o11_0).st hb12
      clear k1_0v11 o4_0_0v11 o5_0v11 k6_0v11 o6_0v11 o7_0_0v11 o11_0
      have xk6_0v12 := k6_0v12.lt
      have ck6_0v12_0 := k6_0v12.cell 0
      simp at ck6_0v12_0
      have ck6_0v12_1 := k6_0v12.cell 1
      simp at ck6_0v12_1
      have ck6_0v12_2 := k6_0v12.cell 2
      simp at ck6_0v12_2
      go_wp2_with fail
      ((with_reducible refine (markKeyBook_b a0_0 a0_1 a0_2 A5_0 c5_0 1 _ o5_0v12 (by omega) (by omega)).mono ?_); rintro e w13 ⟨rfl, f13_0, hb13⟩)
      have s13 : w12.heap.size ≤ w13.heap.size := by have := hb13.size; simpa using this
      have B13 : Below w.heap.size w w13 := (B12).trans (hb13.below (by first | omega | (simp <;> omega)) (by first | omega | (simp <;> omega)))
      have k1_0v13 := (k1_0v12).fr hb13 (by first | omega | (simp <;> omega))
      have o4_0_0v13 := (o4_0_0v12).fr hb13 (by first | omega | (simp <;> omega))
      have k6_0v13 := (k6_0v12).fr hb13 (by first | omega | (simp <;> omega))
      have o6_0v13 := (o6_0v12).fr hb13 (by first | omega | (simp <;> omega))
      have o7_0_0v13 := (o7_0_0v12).fr hb13 (by first | omega | (simp <;> omega))
      clear k1_0v12 o4_0_0v12 k6_0v12 o6_0v12 o7_0_0v12 xk6_0v12 ck6_0v12_0 ck6_0v12_1 ck6_0v12_2
      go_wp2_with fail
      ((with_reducible refine (markIntS_b a2_0 A6_0 c6_0 (1 + (a0_2.length : Int)) _ o6_0v13 (by omega) (by omega)).mono ?_); rintro e w14 ⟨rfl, f14_0, hb14⟩)
      have s14 : w13.heap.size ≤ w14.heap.size := by have := hb14.size; simpa using this
      have B14 : Below w.heap.size w w14 := (B13).trans (hb14.below (by first | omega | (simp <;> omega)) (by first | omega | (simp <;> omega)))
      have k1_0v14 := (k1_0v13).fr hb14 (by first | omega | (simp <;> omega))
      have o4_0_0v14 := (o4_0_0v13).fr hb14 (by first | omega | (simp <;> omega))
      have o7_0_0v14 := (o7_0_0v13).fr hb14 (by first | omega | (simp <;> omega))
      clear k1_0v13 o4_0_0v13 o7_0_0v13
      go_wp2_with fail
      ((with_reducible refine (eqIntS_b (hsL (-1) a0_0 a0_1 a0_2 a1_0 a2_0) A7_0_0 c7_0_0 (hsL (-1) a0_0 a0_1 a0_2 a1_0 a2_0) A4_0_0 c4_0_0 _ ((o7_0_0v14).rd') o4_0_0v14 (by omega) (by omega)).mono ?_); rintro e w15 ⟨rfl, hb15⟩)
      have s15 : w14.heap.size ≤ w15.heap.size := by have := hb15.size; simpa using this
      have B15 : Below w.heap.size w w15 := (B14).trans (hb15.mono (by first | omega | (simp <;> omega)))
      have k1_0v15 := (k1_0v14).st hb15
      have o4_0_0v15 := (o4_0_0v14).st hb15
      have o7_0_0v15 := (o7_0_0v14).st hb15
      clear k1_0v14 o4_0_0v14 o7_0_0v14
      go_wp2_with fail
      ((with_reducible refine (markIntS_b (hsL (-1) a0_0 a0_1 a0_2 a1_0 a2_0) A7_0_0 c7_0_0 1 _ o7_0_0v15 (by omega) (by omega)).mono ?_); rintro e w16 ⟨rfl, f16_0, hb16⟩)
      have s16 : w15.heap.size ≤ w16.heap.size := by have := hb16.size; simpa using this
      have B16 : Below w.heap.size w w16 := (B15).trans (hb16.below (by first | omega | (simp <;> omega)) (by first | omega | (simp <;> omega)))
      have k1_0v16 := (k1_0v15).fr hb16 (by first | omega | (simp <;> omega))
      have o4_0_0v16 := (o4_0_0v15).fr hb16 (by first | omega | (simp <;> omega))
      clear k1_0v15 o4_0_0v15
      go_wp2_with fail
      ((with_reducible refine (heldIntS_b (hsL (-1) a0_0 a0_1 a0_2 a1_0 a2_0) A7_0_0 c7_0_0 1 _ ((f16_0).rd') (by omega) (by omega)).mono ?_); rintro e w17 ⟨rfl, hb17⟩)
      have s17 : w16.heap.size ≤ w17.heap.size := by have := hb17.size; simpa using this
      have B17 : Below w.heap.size w w17 := (B16).trans (hb17.mono (by first | omega | (simp <;> omega)))
      have k1_0v17 := (k1_0v16).st hb17
      have o4_0_0v17 := (o4_0_0v16).st hb17
      have f16_0v17 := (f16_0).st hb17
      clear k1_0v16 o4_0_0v16 f16_0
      have xk1_0v17 := k1_0v17.lt
      have ck1_0v17_0 := k1_0v17.cell 0
      simp at ck1_0v17_0
      have ck1_0v17_1 := k1_0v17.cell 1
      simp at ck1_0v17_1
      have ck1_0v17_2 := k1_0v17.cell 2
      simp at ck1_0v17_2
      go_wp2_with fail
      ((with_reducible refine (toKeyBook_any a0_0 a0_1 a0_2 Aa0_2 ca0_2 _ ((h0_0.below B17 (Nat.le_refl _))) (by omega)).mono ?_); rintro e w18 ⟨A18_0, c18_0, rfl, o18_0, hb18⟩)
      have s18 : w17.heap.size ≤ w18.heap.size := by have := hb18.size; simpa using this
      have B18 : Below w.heap.size w w18 := (B17).trans (hb18.mono (by first | omega | (simp <;> omega)))
      have k1_0v18 := (k1_0v17).st hb18
      have o4_0_0v18 := (o4_0_0v17).st hb18
      have f16_0v18 := (f16_0v17).st hb18
      clear k1_0v17 o4_0_0v17 f16_0v17 xk1_0v17 ck1_0v17_0 ck1_0v17_1 ck1_0v17_2
      go_wp2_with fail
      ((with_reducible refine (toIntS_b a2_0 Aa2_0 ca2_0 _ ((h2_0.below B18 (Nat.le_refl _))) (by omega)).mono ?_); rintro e w19 ⟨A19_0, c19_0, rfl, o19_0, hb19⟩)
      have s19 : w18.heap.size ≤ w19.heap.size := by have := hb19.size; simpa using this
      have B19 : Below w.heap.size w w19 := (B18).trans (hb19.mono (by first | omega | (simp <;> omega)))
      have k1_0v19 := (k1_0v18).st hb19
      have o4_0_0v19 := (o4_0_0v18).st hb19
      have f16_0v19 := (f16_0v18).st hb19
      have o18_0v19 := (o18_0).st hb19
      clear k1_0v18 o4_0_0v18 f16_0v18 o18_0
      go_wp2_with fail
      ((with_reducible refine (iShowSignals_any a0_0 a0_1 a0_2 A18_0 c18_0 a1_0 a2_0 A19_0 c19_0 _ ((o18_0v19).rd') ((o19_0).rd') (by omega) (by omega) ).mono ?_); rintro e w20 ⟨A20_0_0, c20_0_0, rfl, o20_0_0, l20_0, hb20⟩)
      have s20 : w19.heap.size ≤ w20.heap.size := by have := hb20.size; simpa using this
      have B20 : Below w.heap.size w w20 := (B19).trans (hb20.mono (by first | omega | (simp <;> omega)))
      have k1_0v20 := (k1_0v19).st hb20
      have o4_0_0v20 := (o4_0_0v19).st hb20
      have f16_0v20 := (f16_0v19).st hb20
      have o18_0v20 := (o18_0v19).st hb20
      have o19_0v20 := (o19_0).st hb20
      clear k1_0v19 o4_0_0v19 f16_0v19 o18_0v19 o19_0
      go_wp2_with fail
      ((with_reducible refine (eqIntS_b (hsL (-1) a0_0 a0_1 a0_2 a1_0 a2_0) A20_0_0 c20_0_0 (hsL (-1) a0_0 a0_1 a0_2 a1_0 a2_0) A4_0_0 c4_0_0 _ ((o20_0_0).rd') o4_0_0v20 (by omega) (by omega)).mono ?_); rintro e w21 ⟨rfl, hb21⟩)
      have s21 : w20.heap.size ≤ w21.heap.size := by have := hb21.size; simpa using this
      have B21 : Below w.heap.size w w21 := (B20).trans (hb21.mono (by first | omega | (simp <;> omega)))
      have k1_0v21 := (k1_0v20).st hb21
      have o4_0_0v21 := (o4_0_0v20).st hb21
      have f16_0v21 := (f16_0v20).st hb21
      have o20_0_0v21 := (o20_0_0).st hb21
      clear k1_0v20 o4_0_0v20 f16_0v20 o20_0_0
      go_wp2_with fail
      ((with_reducible refine (heldIntS_b (hsL (-1) a0_0 a0_1 a0_2 a1_0 a2_0) A7_0_0 c7_0_0 1 _ ((f16_0v21).rd') (by omega) (by omega)).mono ?_); rintro e w22 ⟨rfl, hb22⟩)
      have s22 : w21.heap.size ≤ w22.heap.size := by have := hb22.size; simpa using this
      have B22 : Below w.heap.size w w22 := (B21).trans (hb22.mono (by first | omega | (simp <;> omega)))
      have k1_0v22 := (k1_0v21).st hb22
      have o4_0_0v22 := (o4_0_0v21).st hb22
      have f16_0v22 := (f16_0v21).st hb22
      have o20_0_0v22 := (o20_0_0v21).st hb22
      clear k1_0v21 o4_0_0v21 f16_0v21 o20_0_0v21
      go_wp2_with fail
      go_ret
      exact ⟨rfl, B22⟩
    · go_enter Try.func4, Try.ntmps4
      go_wp2_with fail
      ((with_reducible refine (szKeyBook_no a0_0 a0_1 a0_2 Aa0_2 ca0_2 1048576 _ (by omega) l0_0 (by omega)).mono ?_); rintro e w1 ⟨rfl, hb1⟩)
      have s1 : w.heap.size + 1 ≤ w1.heap.size := by have := hb1.size; simpa using this
      have B1 : Below w.heap.size w w1 := (((Below.refl w.heap.size w)).alloc (by first | omega | (simp <;> omega)) _).trans (hb1.mono (by first | omega | (simp <;> omega)))
      have k1_0 := (Bk.new w _ _).st hb1
      go_wp2_with fail
      go_ret
      exact ⟨rfl, B1⟩
  · go_enter Try.func4, Try.ntmps4
    go_wp2_with fail
    go_ret
    exact ⟨rfl, ((Below.refl w.heap.size w)).alloc (by first | omega | (simp <;> omega)) _⟩

end Go.Proofs.Ytlpoknplonmfmaa.fnExactShowSignals
