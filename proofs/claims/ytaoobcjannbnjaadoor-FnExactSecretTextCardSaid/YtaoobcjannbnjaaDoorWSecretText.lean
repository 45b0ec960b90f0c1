/-
  The walk through FnExactSecretText, call by call. Printed by a program of this claim's own. No conditions beyond the bounds of Go's slices.
-/
import Derived.Test.YtaoobcjannbnjaaDoorLawKit
import Derived.Test.YtaoobcjannbnjaaDoorSeText
namespace Go.Proofs.YtaoobcjannbnjaaDoor.fnExactSecretText
open Go.ChangeShapes Go.WideShapes Go.ChangeAt Go.RowKit
set_option linter.unusedVariables false

set_option maxRecDepth 100000 in
set_option maxHeartbeats 4000000 in
theorem walk (a0_0 : List Int) (Aa0_0 : Option Addr) (ca0_0 : Nat) (a0_1 : List Int) (Aa0_1 : Option Addr) (ca0_1 : Nat) (w : World) (h0_0 : Rd w 0 w.heap.size Aa0_0 a0_0) (l0_0 : a0_0.length ≤ 9223372036854775807) (h0_1 : Rd w 0 w.heap.size Aa0_1 a0_1) (l0_1 : a0_1.length ≤ 9223372036854775807) (hP : Pow w) :
    Calls Tryd.prog 6 #[.agg #[.slice Aa0_0 a0_0.length ca0_0, .slice Aa0_1 a0_1.length ca0_1]] w fun e w' => e = .returned (.bool true) ∧ Below w.heap.size w w' := by
  by_cases z0 : a0_0.length + a0_1.length ≤ 1048576
  · skip
    go_enter Tryd.func6, Tryd.ntmps6
    go_wp2_with fail
    ((with_reducible refine (szSecret_yes a0_0 Aa0_0 ca0_0 a0_1 Aa0_1 ca0_1 1048576 _ (by omega) l0_0 l0_1 (by omega)).mono ?_); rintro e w1 ⟨rfl, hb1⟩)
    have s1 : w.heap.size + 1 ≤ w1.heap.size := by have := hb1.size; simpa using this
    have B1 : Below w.heap.size w w1 := (((Below.refl w.heap.size w)).alloc (by first | omega | (simp <;> omega)) _).trans (hb1.mono (by first | omega | (simp <;> omega)))
    have k1_0 := (Bk.new w _ _).st hb1
    have xk1_0 := k1_0.lt
    have ck1_0_0 := k1_0.cell 0
    simp at ck1_0_0
    have ck1_0_1 := k1_0.cell 1
    simp at ck1_0_1
    go_wp2_with fail
    ((with_reducible refine (toSecret_any a0_0 Aa0_0 ca0_0 a0_1 Aa0_1 ca0_1 _ ((h0_0.below B1 (Nat.le_refl _))) ((h0_1.below B1 (Nat.le_refl _))) (by omega) (by omega)).mono ?_); rintro e w2 ⟨A2_0, c2_0, A2_1, c2_1, rfl, o2_0, o2_1, d2, hb2⟩)
    have s2 : w1.heap.size ≤ w2.heap.size := by have := hb2.size; simpa using this
    have B2 : Below w.heap.size w w2 := (B1).trans (hb2.mono (by first | omega | (simp <;> omega)))
    have k1_0v2 := (k1_0).st hb2
    clear k1_0 xk1_0 ck1_0_0 ck1_0_1
    have xk1_0v2 := k1_0v2.lt
    have ck1_0v2_0 := k1_0v2.cell 0
    simp at ck1_0v2_0
    have ck1_0v2_1 := k1_0v2.cell 1
    simp at ck1_0v2_1
    go_wp2_with fail
    ((with_reducible refine (sSecretText_any a0_0 A2_0 c2_0 a0_1 A2_1 c2_1 _ ((o2_0).rd') ((o2_1).rd') (by omega) (by omega) (o2_0).len.2).mono ?_); rintro e w3 ⟨rfl, hb3⟩)
    have s3 : w2.heap.size ≤ w3.heap.size := by have := hb3.size; simpa using this
    have B3 : Below w.heap.size w w3 := (B2).trans (hb3.mono (by first | omega | (simp <;> omega)))
    have k1_0v3 := (k1_0v2).st hb3
    have o2_0v3 := (o2_0).st hb3
    have o2_1v3 := (o2_1).st hb3
    clear k1_0v2 o2_0 o2_1 xk1_0v2 ck1_0v2_0 ck1_0v2_1
    have xk1_0v3 := k1_0v3.lt
    have ck1_0v3_0 := k1_0v3.cell 0
    simp at ck1_0v3_0
    have ck1_0v3_1 := k1_0v3.cell 1
    simp at ck1_0v3_1
    go_wp2_with fail
    ((with_reducible refine (toSecret_any a0_0 Aa0_0 ca0_0 a0_1 Aa0_1 ca0_1 _ ((h0_0.below B3 (Nat.le_refl _))) ((h0_1.below B3 (Nat.le_refl _))) (by omega) (by omega)).mono ?_); rintro e w4 ⟨A4_0, c4_0, A4_1, c4_1, rfl, o4_0, o4_1, d4, hb4⟩)
    have s4 : w3.heap.size ≤ w4.heap.size := by have := hb4.size; simpa using this
    have B4 : Below w.heap.size w w4 := (B3).trans (hb4.mono (by first | omega | (simp <;> omega)))
    have k1_0v4 := (k1_0v3).st hb4
    clear k1_0v3 xk1_0v3 ck1_0v3_0 ck1_0v3_1
    go_wp2_with fail
    ((with_reducible refine (iSecretText_any a0_0 A4_0 c4_0 a0_1 A4_1 c4_1 _ (((o4_0).alloc _).rd') (((o4_1).alloc _).rd') (by omega) (by omega)  (((hP.below B4 hP.lt)).alloc _)).mono ?_); rintro e w5 ⟨rfl, hb5⟩)
    have s5 : w4.heap.size + 1 ≤ w5.heap.size := by have := hb5.size; simpa using this
    have B5 : Below w.heap.size w w5 := ((B4).alloc (by first | omega | (simp <;> omega)) _).trans (hb5.mono (by first | omega | (simp <;> omega)))
    have k1_0v5 := ((k1_0v4).alloc _).st hb5
    have o4_0v5 := ((o4_0).alloc _).st hb5
    have o4_1v5 := ((o4_1).alloc _).st hb5
    have k5_0 := (Bk.new w4 _ _).st hb5
    clear k1_0v4 o4_0 o4_1
    have hq0 := eqSe_self a0_0 a0_1
    have xk5_0 := k5_0.lt
    have ck5_0_0 := k5_0.cell 0
    simp at ck5_0_0
    have ck5_0_1 := k5_0.cell 1
    simp at ck5_0_1
    have xk1_0v5 := k1_0v5.lt
    have ck1_0v5_0 := k1_0v5.cell 0
    simp at ck1_0v5_0
    have ck1_0v5_1 := k1_0v5.cell 1
    simp at ck1_0v5_1
    go_wp2_with fail
    go_region_held3 (fun w' => w'.cell? ⟨w4.heap.size, 0, none⟩ = some (.slice A4_0 a0_0.length c4_0) ∧ w'.cell? ⟨w4.heap.size, 1, none⟩ = some (.slice A4_1 a0_1.length c4_1) ∧ w'.cell? ⟨w.heap.size, 0, none⟩ = some (.slice Aa0_0 a0_0.length ca0_0) ∧ w'.cell? ⟨w.heap.size, 1, none⟩ = some (.slice Aa0_1 a0_1.length ca0_1)) (first | go_keep | ((try go_split_ands); (try dsimp only); (repeat' apply And.intro) <;> (first | go_keep | ((refine (hc7 _ _ ?_).trans ?_) <;> first | assumption | omega | (simp <;> omega)) | ((refine (hc6 _ _ ?_).trans ?_) <;> first | assumption | omega | (simp <;> omega)) | ((with_reducible refine cell_realloc ?_ (by with_reducible assumption)) <;> first | (dsimp only; omega) | omega))))
      (first
        | (go_at_call 26; ((with_reducible refine (toSecret_any a0_0 Aa0_0 ca0_0 a0_1 Aa0_1 ca0_1 _ (((h0_0.below B5 (Nat.le_refl _))).drew) (((h0_1.below B5 (Nat.le_refl _))).drew) (by omega) (by omega)).mono ?_); rintro e w6 ⟨A6_0, c6_0, A6_1, c6_1, rfl, o6_0, o6_1, d6, hb6⟩; (have s6 : w5.heap.size ≤ w6.heap.size := by have := hb6.size; simpa using this); (have B6 : Below w.heap.size w w6 := ((B5).drew).trans (hb6.mono (by first | omega | (simp <;> omega)))); (have k1_0v6 := ((k1_0v5).drew).st hb6); (have o4_0v6 := ((o4_0v5).drew).st hb6); (have o4_1v6 := ((o4_1v5).drew).st hb6); (have k5_0v6 := ((k5_0).drew).st hb6); (have hc6 := (bcell hb6).1)))
        | (go_at_call 28; ((with_reducible refine (eqSecret_b a0_0 A4_0 c4_0 a0_1 A4_1 c4_1 a0_0 A6_0 c6_0 a0_1 A6_1 c6_1 _ ((o4_0v6).rd') ((o4_1v6).rd') ((o6_0).rd') ((o6_1).rd') (by omega) (by omega) (by omega) (by omega)).mono ?_); rintro e w7 ⟨rfl, hb7⟩; (have s7 : w6.heap.size ≤ w7.heap.size := by have := hb7.size; simpa using this); (have B7 : Below w.heap.size w w7 := (B6).trans (hb7.mono (by first | omega | (simp <;> omega)))); (have k1_0v7 := (k1_0v6).st hb7); (have o4_0v7 := (o4_0v6).st hb7); (have o4_1v7 := (o4_1v6).st hb7); (have k5_0v7 := (k5_0v6).st hb7); (have o6_0v7 := (o6_0).st hb7); (have o6_1v7 := (o6_1).st hb7); (have hc7 := (bcell hb7).1))))
    clear xk5_0 ck5_0_0 ck5_0_1 xk1_0v5 ck1_0v5_0 ck1_0v5_1
    go_wp2_with fail
    go_ret
    exact ⟨rfl, B7⟩
  · go_enter Tryd.func6, Tryd.ntmps6
    go_wp2_with fail
    ((with_reducible refine (szSecret_no a0_0 Aa0_0 ca0_0 a0_1 Aa0_1 ca0_1 1048576 _ (by omega) l0_0 l0_1 (by omega)).mono ?_); rintro e w1 ⟨rfl, hb1⟩)
    have s1 : w.heap.size + 1 ≤ w1.heap.size := by have := hb1.size; simpa using this
    have B1 : Below w.heap.size w w1 := (((Below.refl w.heap.size w)).alloc (by first | omega | (simp <;> omega)) _).trans (hb1.mono (by first | omega | (simp <;> omega)))
    have k1_0 := (Bk.new w _ _).st hb1
    go_wp2_with fail
    go_ret
    exact ⟨rfl, B1⟩

end Go.Proofs.YtaoobcjannbnjaaDoor.fnExactSecretText
