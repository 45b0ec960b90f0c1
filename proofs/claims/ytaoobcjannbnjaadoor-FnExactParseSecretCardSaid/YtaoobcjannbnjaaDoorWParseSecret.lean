/-
  The walk through FnExactParseSecret, call by call. Printed by a program of this claim's own. No conditions beyond the bounds of Go's slices.
-/
import Derived.Test.YtaoobcjannbnjaaDoorLawKit
import Derived.Test.YtaoobcjannbnjaaDoorRse
import Derived.Test.YtaoobcjannbnjaaDoorMarkP
namespace Go.Proofs.YtaoobcjannbnjaaDoor.fnExactParseSecret
open Go.ChangeShapes Go.WideShapes Go.ChangeAt Go.RowKit
set_option linter.unusedVariables false

set_option maxRecDepth 100000 in
set_option maxHeartbeats 4000000 in
theorem walk (a0_0 : ByteArray) (w : World) (l0 : a0_0.size ≤ 9223372036854775807) (hS : Sen w) :
    Calls Tryd.prog 9 #[.string a0_0] w fun e w' => e = .returned (.bool true) ∧ Below w.heap.size w w' := by
  by_cases z0 : a0_0.size ≤ 1048576
  · skip
    go_enter Tryd.func9, Tryd.ntmps9
    go_wp2_with fail
    ((with_reducible refine (sParseSecret_any a0_0 _   (by omega) ).mono ?_); rintro e w1 ⟨A1_0_0, c1_0_0, A1_0_1, c1_0_1, rfl, o1_0_0, o1_0_1, l1_0, l1_1, hb1⟩)
    have s1 : w.heap.size ≤ w1.heap.size := by have := hb1.size; simpa using this
    have B1 : Below w.heap.size w w1 := ((Below.refl w.heap.size w)).trans (hb1.mono (by first | omega | (simp <;> omega)))
    go_wp2_with fail
    ((with_reducible refine (iParseSecret_any a0_0 _   (by omega)  (((hS.st B1)).alloc _)).mono ?_); rintro e w2 ⟨A2_0_0, c2_0_0, A2_0_1, c2_0_1, il2_0, ir2_0, il2_1, ir2_1, rfl, o2_0_0, o2_0_1, ⟨ib2_0, ib2_1, ib2_2, ib2_3, ib2_4⟩, l2_0, l2_1, hb2⟩)
    have s2 : w1.heap.size + 1 ≤ w2.heap.size := by have := hb2.size; simpa using this
    have B2 : Below w.heap.size w w2 := ((B1).alloc (by first | omega | (simp <;> omega)) _).trans (hb2.mono (by first | omega | (simp <;> omega)))
    have o1_0_0v2 := ((o1_0_0).alloc _).st hb2
    have o1_0_1v2 := ((o1_0_1).alloc _).st hb2
    have k2_0 := (Bk.new w1 _ _).st hb2
    clear o1_0_0 o1_0_1
    have jb2_0 : w1.heap.size + 1 ≤ il2_0 := by simpa using ib2_0
    have jb2_1 : w1.heap.size + 1 ≤ il2_1 := by simpa using ib2_2
    have hq0 := eqSe_self (pzP a0_0) (pzL a0_0)
    have xk2_0 := k2_0.lt
    have ck2_0_0 := k2_0.cell 0
    simp at ck2_0_0
    have ck2_0_1 := k2_0.cell 1
    simp at ck2_0_1
    go_wp2_with fail
    ((with_reducible refine (eqSecret_b (pzP a0_0) A2_0_0 c2_0_0 (pzL a0_0) A2_0_1 c2_0_1 (pzP a0_0) A1_0_0 c1_0_0 (pzL a0_0) A1_0_1 c1_0_1 _ (((o2_0_0).alloc _).rd') (((o2_0_1).alloc _).rd') ((o1_0_0v2).alloc _) ((o1_0_1v2).alloc _) (by omega) (by omega) (by omega) (by omega)).mono ?_); rintro e w3 ⟨rfl, hb3⟩)
    have s3 : w2.heap.size + 1 ≤ w3.heap.size := by have := hb3.size; simpa using this
    have B3 : Below w.heap.size w w3 := ((B2).alloc (by first | omega | (simp <;> omega)) _).trans (hb3.mono (by first | omega | (simp <;> omega)))
    have o1_0_0v3 := ((o1_0_0v2).alloc _).st hb3
    have o1_0_1v3 := ((o1_0_1v2).alloc _).st hb3
    have k2_0v3 := ((k2_0).alloc _).st hb3
    have o2_0_0v3 := ((o2_0_0).alloc _).st hb3
    have o2_0_1v3 := ((o2_0_1).alloc _).st hb3
    have k3_0 := (Bk.new w2 _ _).st hb3
    clear o1_0_0v2 o1_0_1v2 k2_0 o2_0_0 o2_0_1 xk2_0 ck2_0_0 ck2_0_1
    have xk3_0 := k3_0.lt
    have ck3_0_0 := k3_0.cell 0
    simp at ck3_0_0
    have ck3_0_1 := k3_0.cell 1
    simp at ck3_0_1
    go_wp2_with fail
    ((with_reducible refine (markSecret_p (pzP a0_0) A2_0_0 c2_0_0 (pzL a0_0) A2_0_1 c2_0_1 1 _ o2_0_0v3 o2_0_1v3 (by omega) (by omega) (by omega)).mono ?_); rintro e w4 ⟨rfl, f4_0, f4_1, wm4, ha4, hb4⟩)
    have s4 : w3.heap.size ≤ w4.heap.size := Nat.le_trans (by simpa using ha4.size) hb4.size
    have B4 : Below w.heap.size w w4 := ((B3).trans (ha4.below (by first | omega | (simp <;> omega)) (by first | omega | (simp <;> omega)))).trans (hb4.below (by first | omega | (simp <;> omega)) (Nat.le_trans (by first | omega | (simp <;> omega)) ha4.size))
    have o1_0_0v4 := ((o1_0_0v3).fr ha4 (by first | omega | (simp <;> omega))).fr hb4 (by first | omega | (simp <;> omega))
    have o1_0_1v4 := ((o1_0_1v3).fr ha4 (by first | omega | (simp <;> omega))).fr hb4 (by first | omega | (simp <;> omega))
    have k2_0v4 := ((k2_0v3).fr ha4 (by first | omega | (simp <;> omega))).fr hb4 (by first | omega | (simp <;> omega))
    have k3_0v4 := ((k3_0).fr ha4 (by first | omega | (simp <;> omega))).fr hb4 (by first | omega | (simp <;> omega))
    clear o1_0_0v3 o1_0_1v3 k2_0v3 k3_0 xk3_0 ck3_0_0 ck3_0_1
    have xk3_0v4 := k3_0v4.lt
    have ck3_0v4_0 := k3_0v4.cell 0
    simp at ck3_0v4_0
    have ck3_0v4_1 := k3_0v4.cell 1
    simp at ck3_0v4_1
    go_wp2_with fail
    ((with_reducible refine (heldSecret_b (pzP a0_0) A2_0_0 c2_0_0 (pzL a0_0) A2_0_1 c2_0_1 1 _ ((f4_0).rd') ((f4_1).rd') (by omega) (by omega)).mono ?_); rintro e w5 ⟨rfl, hb5⟩)
    have s5 : w4.heap.size ≤ w5.heap.size := by have := hb5.size; simpa using this
    have B5 : Below w.heap.size w w5 := (B4).trans (hb5.mono (by first | omega | (simp <;> omega)))
    have o1_0_0v5 := (o1_0_0v4).st hb5
    have o1_0_1v5 := (o1_0_1v4).st hb5
    have k2_0v5 := (k2_0v4).st hb5
    have f4_0v5 := (f4_0).st hb5
    have f4_1v5 := (f4_1).st hb5
    have k3_0v5 := (k3_0v4).st hb5
    clear o1_0_0v4 o1_0_1v4 k2_0v4 f4_0 f4_1 k3_0v4 xk3_0v4 ck3_0v4_0 ck3_0v4_1
    go_wp2_with fail
    ((with_reducible refine (iParseSecret_any a0_0 _   (by omega)  ((hS.st B5))).mono ?_); rintro e w6 ⟨A6_0_0, c6_0_0, A6_0_1, c6_0_1, il6_0, ir6_0, il6_1, ir6_1, rfl, o6_0_0, o6_0_1, ⟨ib6_0, ib6_1, ib6_2, ib6_3, ib6_4⟩, l6_0, l6_1, hb6⟩)
    have s6 : w5.heap.size ≤ w6.heap.size := by have := hb6.size; simpa using this
    have B6 : Below w.heap.size w w6 := (B5).trans (hb6.mono (by first | omega | (simp <;> omega)))
    have o1_0_0v6 := (o1_0_0v5).st hb6
    have o1_0_1v6 := (o1_0_1v5).st hb6
    have k2_0v6 := (k2_0v5).st hb6
    have f4_0v6 := (f4_0v5).st hb6
    have f4_1v6 := (f4_1v5).st hb6
    have k3_0v6 := (k3_0v5).st hb6
    clear o1_0_0v5 o1_0_1v5 k2_0v5 f4_0v5 f4_1v5 k3_0v5
    have jb6_0 : w5.heap.size ≤ il6_0 := by simpa using ib6_0
    have jb6_1 : w5.heap.size ≤ il6_1 := by simpa using ib6_2
    have xk2_0v6 := k2_0v6.lt
    have ck2_0v6_0 := k2_0v6.cell 0
    simp at ck2_0v6_0
    have ck2_0v6_1 := k2_0v6.cell 1
    simp at ck2_0v6_1
    go_wp2_with fail
    ((with_reducible refine (eqSecret_b (pzP a0_0) A6_0_0 c6_0_0 (pzL a0_0) A6_0_1 c6_0_1 (pzP a0_0) A1_0_0 c1_0_0 (pzL a0_0) A1_0_1 c1_0_1 _ (((o6_0_0).alloc _).rd') (((o6_0_1).alloc _).rd') ((o1_0_0v6).alloc _) ((o1_0_1v6).alloc _) (by omega) (by omega) (by omega) (by omega)).mono ?_); rintro e w7 ⟨rfl, hb7⟩)
    have s7 : w6.heap.size + 1 ≤ w7.heap.size := by have := hb7.size; simpa using this
    have B7 : Below w.heap.size w w7 := ((B6).alloc (by first | omega | (simp <;> omega)) _).trans (hb7.mono (by first | omega | (simp <;> omega)))
    have o1_0_0v7 := ((o1_0_0v6).alloc _).st hb7
    have o1_0_1v7 := ((o1_0_1v6).alloc _).st hb7
    have k2_0v7 := ((k2_0v6).alloc _).st hb7
    have f4_0v7 := ((f4_0v6).alloc _).st hb7
    have f4_1v7 := ((f4_1v6).alloc _).st hb7
    have k3_0v7 := ((k3_0v6).alloc _).st hb7
    have o6_0_0v7 := ((o6_0_0).alloc _).st hb7
    have o6_0_1v7 := ((o6_0_1).alloc _).st hb7
    have k7_0 := (Bk.new w6 _ _).st hb7
    clear o1_0_0v6 o1_0_1v6 k2_0v6 f4_0v6 f4_1v6 k3_0v6 o6_0_0 o6_0_1 xk2_0v6 ck2_0v6_0 ck2_0v6_1
    have xk3_0v7 := k3_0v7.lt
    have ck3_0v7_0 := k3_0v7.cell 0
    simp at ck3_0v7_0
    have ck3_0v7_1 := k3_0v7.cell 1
    simp at ck3_0v7_1
    go_wp2_with fail
    ((with_reducible refine (heldSecret_b (pzP a0_0) A2_0_0 c2_0_0 (pzL a0_0) A2_0_1 c2_0_1 1 _ ((f4_0v7).rd') ((f4_1v7).rd') (by omega) (by omega)).mono ?_); rintro e w8 ⟨rfl, hb8⟩)
    have s8 : w7.heap.size ≤ w8.heap.size := by have := hb8.size; simpa using this
    have B8 : Below w.heap.size w w8 := (B7).trans (hb8.mono (by first | omega | (simp <;> omega)))
    have o1_0_0v8 := (o1_0_0v7).st hb8
    have o1_0_1v8 := (o1_0_1v7).st hb8
    have k2_0v8 := (k2_0v7).st hb8
    have f4_0v8 := (f4_0v7).st hb8
    have f4_1v8 := (f4_1v7).st hb8
    have k3_0v8 := (k3_0v7).st hb8
    have o6_0_0v8 := (o6_0_0v7).st hb8
    have o6_0_1v8 := (o6_0_1v7).st hb8
    have k7_0v8 := (k7_0).st hb8
    clear o1_0_0v7 o1_0_1v7 k2_0v7 f4_0v7 f4_1v7 k3_0v7 o6_0_0v7 o6_0_1v7 k7_0 xk3_0v7 ck3_0v7_0 ck3_0v7_1
    go_wp2_with fail
    go_ret
    exact ⟨rfl, B8⟩
  · go_enter Tryd.func9, Tryd.ntmps9
    go_wp2_with fail
    go_ret
    exact ⟨rfl, (Below.refl w.heap.size w)⟩

end Go.Proofs.YtaoobcjannbnjaaDoor.fnExactParseSecret
