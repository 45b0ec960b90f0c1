/-
  The walk through FnExactMergeKeyBooks, call by call. Printed by a program of this claim's own. No conditions beyond the bounds of Go's slices.
-/
import Derived.Test.YtdonggpcabkmlaaLawKit
import Derived.Test.YtdonggpcabkmlaaCutK
import Derived.Test.YtdonggpcabkmlaaMerge
namespace Go.Proofs.Ytdonggpcabkmlaa.fnExactMergeKeyBooks
open Go.ChangeShapes Go.WideShapes Go.ChangeAt Go.RowKit
set_option linter.unusedVariables false

set_option maxRecDepth 100000 in
set_option maxHeartbeats 4000000 in
theorem walk (a0_0 : Int) (a0_1 : Int) (a0_2 : List Int) (Aa0_2 : Option Addr) (ca0_2 : Nat) (a1_0 : Int) (a1_1 : Int) (a1_2 : List Int) (Aa1_2 : Option Addr) (ca1_2 : Nat) (w : World) (h0_0 : Rd w 0 w.heap.size Aa0_2 a0_2) (l0_0 : a0_2.length ≤ 9223372036854775807) (h1_0 : Rd w 0 w.heap.size Aa1_2 a1_2) (l1_0 : a1_2.length ≤ 9223372036854775807) :
    Calls Try.prog 6 #[.agg #[.int .i64 a0_0, .int .i64 a0_1, .slice Aa0_2 a0_2.length ca0_2], .agg #[.int .i64 a1_0, .int .i64 a1_1, .slice Aa1_2 a1_2.length ca1_2]] w fun e w' => e = .returned (.bool true) ∧ Below w.heap.size w w' := by
  by_cases z0 : a0_2.length ≤ 1048576
  · skip
    by_cases z1 : a0_2.length + a1_2.length ≤ 1048576
    · skip
      go_enter Try.func6, Try.ntmps6
      go_wp2_with fail
      ((with_reducible refine (szKeyBook_yes a0_0 a0_1 a0_2 Aa0_2 ca0_2 1048576 _ (by omega) l0_0 (by omega)).mono ?_); rintro e w1 ⟨rfl, hb1⟩)
      have s1 : w.heap.size + 2 ≤ w1.heap.size := by have := hb1.size; simpa using this
      have B1 : Below w.heap.size w w1 := ((((Below.refl w.heap.size w)).alloc (by first | omega | (simp <;> omega)) _).alloc (by first | omega | (simp <;> omega)) _).trans (hb1.mono (by first | omega | (simp <;> omega)))
      have k1_0 := ((Bk.new w _ _).alloc _).st hb1
      have k1_1 := (Bk.new2 w _ _ _).st hb1
      have xk1_1 := k1_1.lt
      have ck1_1_0 := k1_1.cell 0
      simp at ck1_1_0
      have ck1_1_1 := k1_1.cell 1
      simp at ck1_1_1
      have ck1_1_2 := k1_1.cell 2
      simp at ck1_1_2
      go_wp2_with fail
      ((with_reducible refine (szKeyBook_yes a1_0 a1_1 a1_2 Aa1_2 ca1_2 (1048576 - ((a0_2.length : Nat) : Int)) _ (by omega) l1_0 (by omega)).mono ?_); rintro e w2 ⟨rfl, hb2⟩)
      have s2 : w1.heap.size ≤ w2.heap.size := by have := hb2.size; simpa using this
      have B2 : Below w.heap.size w w2 := (B1).trans (hb2.mono (by first | omega | (simp <;> omega)))
      have k1_0v2 := (k1_0).st hb2
      have k1_1v2 := (k1_1).st hb2
      clear k1_0 k1_1 xk1_1 ck1_1_0 ck1_1_1 ck1_1_2
      have xk1_0v2 := k1_0v2.lt
      have ck1_0v2_0 := k1_0v2.cell 0
      simp at ck1_0v2_0
      have ck1_0v2_1 := k1_0v2.cell 1
      simp at ck1_0v2_1
      have ck1_0v2_2 := k1_0v2.cell 2
      simp at ck1_0v2_2
      have xk1_1v2 := k1_1v2.lt
      have ck1_1v2_0 := k1_1v2.cell 0
      simp at ck1_1v2_0
      have ck1_1v2_1 := k1_1v2.cell 1
      simp at ck1_1v2_1
      have ck1_1v2_2 := k1_1v2.cell 2
      simp at ck1_1v2_2
      go_upto_region 8 with fail
      go_cut [6, 7] from 17 (fun s6_ s7_ wq => ∃ (G : Nat) (A5_0_0 : Option Addr) (c5_0_0 : Nat) , s6_ = .pointer (some ⟨G, 0, none⟩) ∧ s7_ = .bool (kpB a0_0 a0_1 a0_2 a1_0 a1_1 a1_2) ∧ w2.heap.size ≤ G ∧ Rd wq w2.heap.size wq.heap.size A5_0_0 (mbL a0_0 a0_1 a0_2 a1_0 a1_1 a1_2) ∧ (mbL a0_0 a0_1 a0_2 a1_0 a1_1 a1_2).length ≤ 1048576 ∧ Bk wq G 26 #[.int .i64 (mbK a0_0 a0_1 a0_2 a1_0 a1_1 a1_2), .int .i64 (mbG a0_0 a0_1 a0_2 a1_0 a1_1 a1_2), .slice A5_0_0 (mbL a0_0 a0_1 a0_2 a1_0 a1_1 a1_2).length c5_0_0] ∧ Below w2.heap.size w2 wq)
      case first =>
        go_wp2_with fail
        go_region_held3 (fun w' => w'.cell? ⟨w.heap.size, 0, none⟩ = some (.int .i64 a0_0) ∧ w'.cell? ⟨w.heap.size, 1, none⟩ = some (.int .i64 a0_1) ∧ w'.cell? ⟨w.heap.size, 2, none⟩ = some (.slice Aa0_2 a0_2.length ca0_2) ∧ w'.cell? ⟨w.heap.size + 1, 0, none⟩ = some (.int .i64 a1_0) ∧ w'.cell? ⟨w.heap.size + 1, 1, none⟩ = some (.int .i64 a1_1) ∧ w'.cell? ⟨w.heap.size + 1, 2, none⟩ = some (.slice Aa1_2 a1_2.length ca1_2)) (((try go_split_ands); (try dsimp only); (repeat' apply And.intro) <;> (first | with_reducible assumption | with_reducible exact cellF3 (by omega) (by with_reducible assumption) | ((with_reducible refine cell_realloc ?_ (by with_reducible assumption)) <;> first | (dsimp only; omega) | omega) | ((with_reducible refine (World.cell?_alloc_lt _ _ _ ?_).trans ?_) <;> first | with_reducible assumption | omega | (simp <;> omega)) | ((with_reducible refine (hc5 _ _ ?_).trans ?_) <;> first | with_reducible assumption | omega | (simp <;> omega)) | ((with_reducible refine (hc4 _ _ ?_).trans ?_) <;> first | with_reducible assumption | omega | (simp <;> omega)) | ((with_reducible refine (hc3 _ _ ?_).trans ?_) <;> first | with_reducible assumption | omega | (simp <;> omega)) | go_keep)))
          (first
            | (go_at_call 14; ((with_reducible refine (toKeyBook_any a0_0 a0_1 a0_2 Aa0_2 ca0_2 _ (((h0_0.below B2 (Nat.le_refl _))).drew) (by omega)).mono ?_); rintro e w3 ⟨A3_0, c3_0, rfl, o3_0, hb3⟩; (have s3 : w2.heap.size ≤ w3.heap.size := by have := hb3.size; simpa using this); (have B3 : Below w.heap.size w w3 := ((B2).drew).trans (hb3.mono (by first | omega | (simp <;> omega)))); (have k1_0v3 := ((k1_0v2).drew).st hb3); (have k1_1v3 := ((k1_1v2).drew).st hb3); (have H3 : Below w2.heap.size w2 w3 := ((((Below.refl w2.heap.size w2))).drew).trans (hb3.mono (by first | omega | (simp <;> omega)))); (have hc3 := (bcell hb3).1); (try (have kG3 := kG2.st hb3))))
            | (go_at_call 14; ((with_reducible refine (toKeyBook_any a0_0 a0_1 a0_2 Aa0_2 ca0_2 _ ((((h0_0.below B2 (Nat.le_refl _))).alloc _).drew) (by omega)).mono ?_); rintro e w3 ⟨A3_0, c3_0, rfl, o3_0, hb3⟩; (have s3 : w2.heap.size + 1 ≤ w3.heap.size := by have := hb3.size; simpa using this); (have B3 : Below w.heap.size w w3 := (((B2).alloc (by first | omega | (simp <;> omega)) _).drew).trans (hb3.mono (by first | omega | (simp <;> omega)))); (have k1_0v3 := (((k1_0v2).alloc _).drew).st hb3); (have k1_1v3 := (((k1_1v2).alloc _).drew).st hb3); (have H3 : Below w2.heap.size w2 w3 := (((((Below.refl w2.heap.size w2))).alloc (by first | omega | (simp <;> omega)) _).drew).trans (hb3.mono (by first | omega | (simp <;> omega)))); (have hc3 := (bcell hb3).1); (have kG3 := ((Bk.new w2 26 #[.int .i64 0, .int .i64 0, .slice none 0 0]).drew).st hb3)))
            | (go_at_call 14; ((with_reducible refine (toKeyBook_any a1_0 a1_1 a1_2 Aa1_2 ca1_2 _ ((h1_0.below B3 (Nat.le_refl _))) (by omega)).mono ?_); rintro e w4 ⟨A4_0, c4_0, rfl, o4_0, hb4⟩; (have s4 : w3.heap.size ≤ w4.heap.size := by have := hb4.size; simpa using this); (have B4 : Below w.heap.size w w4 := (B3).trans (hb4.mono (by first | omega | (simp <;> omega)))); (have k1_0v4 := (k1_0v3).st hb4); (have k1_1v4 := (k1_1v3).st hb4); (have o3_0v4 := (o3_0).st hb4); (have H4 : Below w2.heap.size w2 w4 := ((H3)).trans (hb4.mono (by first | omega | (simp <;> omega)))); (have hc4 := (bcell hb4).1); (try (have kG4 := kG3.st hb4))))
            | (go_at_call 14; ((with_reducible refine (toKeyBook_any a1_0 a1_1 a1_2 Aa1_2 ca1_2 _ (((h1_0.below B3 (Nat.le_refl _))).alloc _) (by omega)).mono ?_); rintro e w4 ⟨A4_0, c4_0, rfl, o4_0, hb4⟩; (have s4 : w3.heap.size + 1 ≤ w4.heap.size := by have := hb4.size; simpa using this); (have B4 : Below w.heap.size w w4 := ((B3).alloc (by first | omega | (simp <;> omega)) _).trans (hb4.mono (by first | omega | (simp <;> omega)))); (have k1_0v4 := ((k1_0v3).alloc _).st hb4); (have k1_1v4 := ((k1_1v3).alloc _).st hb4); (have o3_0v4 := ((o3_0).alloc _).st hb4); (have H4 : Below w2.heap.size w2 w4 := (((H3)).alloc (by first | omega | (simp <;> omega)) _).trans (hb4.mono (by first | omega | (simp <;> omega)))); (have hc4 := (bcell hb4).1); (have kG4 := ((Bk.new w3 26 #[.int .i64 0, .int .i64 0, .slice none 0 0])).st hb4)))
            | (go_at_call 30; ((with_reducible refine (sMergeKeyBooks_any a0_0 a0_1 a0_2 A3_0 c3_0 a1_0 a1_1 a1_2 A4_0 c4_0 _ ((o3_0v4).rd') ((o4_0).rd') (by omega) (by omega) ).mono ?_); rintro e w5 ⟨A5_0_0, c5_0_0, rfl, o5_0_0, l5_0, hb5⟩; (have s5 : w4.heap.size ≤ w5.heap.size := by have := hb5.size; simpa using this); (have B5 : Below w.heap.size w w5 := (B4).trans (hb5.mono (by first | omega | (simp <;> omega)))); (have k1_0v5 := (k1_0v4).st hb5); (have k1_1v5 := (k1_1v4).st hb5); (have o3_0v5 := (o3_0v4).st hb5); (have o4_0v5 := (o4_0).st hb5); (have H5 : Below w2.heap.size w2 w5 := ((H4)).trans (hb5.mono (by first | omega | (simp <;> omega)))); (have hc5 := (bcell hb5).1); (try (have kG5 := kG4.st hb5)); (try (have g0 : _ = some (Value.int .i64 0) := kG5.cell 0)); (try (have g1 : _ = some (Value.int .i64 0) := kG5.cell 1)); (try (have g2 : _ = some (Value.slice none 0 0) := kG5.cell 2)); (try (have gf0 := kG5.frozen 0)); (try (have gf1 := kG5.frozen 1)); (try (have gf2 := kG5.frozen 2)); (try (have gl := kG5.lt))))
            | (go_at_call 30; ((with_reducible refine (sMergeKeyBooks_any a0_0 a0_1 a0_2 A3_0 c3_0 a1_0 a1_1 a1_2 A4_0 c4_0 _ (((o3_0v4).alloc _).rd') (((o4_0).alloc _).rd') (by omega) (by omega) ).mono ?_); rintro e w5 ⟨A5_0_0, c5_0_0, rfl, o5_0_0, l5_0, hb5⟩; (have s5 : w4.heap.size + 1 ≤ w5.heap.size := by have := hb5.size; simpa using this); (have B5 : Below w.heap.size w w5 := ((B4).alloc (by first | omega | (simp <;> omega)) _).trans (hb5.mono (by first | omega | (simp <;> omega)))); (have k1_0v5 := ((k1_0v4).alloc _).st hb5); (have k1_1v5 := ((k1_1v4).alloc _).st hb5); (have o3_0v5 := ((o3_0v4).alloc _).st hb5); (have o4_0v5 := ((o4_0).alloc _).st hb5); (have H5 : Below w2.heap.size w2 w5 := (((H4)).alloc (by first | omega | (simp <;> omega)) _).trans (hb5.mono (by first | omega | (simp <;> omega)))); (have hc5 := (bcell hb5).1); (have kG5 := ((Bk.new w4 26 #[.int .i64 0, .int .i64 0, .slice none 0 0])).st hb5); (try (have g0 : _ = some (Value.int .i64 0) := kG5.cell 0)); (try (have g1 : _ = some (Value.int .i64 0) := kG5.cell 1)); (try (have g2 : _ = some (Value.slice none 0 0) := kG5.cell 2)); (try (have gf0 := kG5.frozen 0)); (try (have gf1 := kG5.frozen 1)); (try (have gf2 := kG5.frozen 2)); (try (have gl := kG5.lt)))))
        all_goals
          clear xk1_0v2 ck1_0v2_0 ck1_0v2_1 ck1_0v2_2 xk1_1v2 ck1_1v2_0 ck1_1v2_1 ck1_1v2_2
          go_wp2_with fail
          go_meet
          case rel => first | exact ⟨_, _, _, rfl, rfl, (by first | omega | (simp <;> omega)), ((rdF3 o5_0_0 (by first | omega | (simp <;> omega))).mono (by first | omega | (simp <;> omega)) (by first | omega | (simp <;> omega))), (by omega), (bkF3 kG5), (belF3 H5 (by first | omega | (simp <;> omega)))⟩ | exact ⟨_, _, _, rfl, rfl, (by first | omega | (simp <;> omega)), (((o5_0_0).alloc _).mono (by first | omega | (simp <;> omega)) (by first | omega | (simp <;> omega))), (by omega), (Bk.new _ _ _), (H5.alloc (by first | omega | (simp <;> omega)) _)⟩
      case rest =>
        obtain ⟨G5, A5_0_0, c5_0_0, rfl, rfl, hG5, o5_0_0, l5_0, kG5, hb5⟩ := hcut
        obtain ⟨w5, rfl⟩ : ∃ w5, w5 = wc := ⟨_, rfl⟩
        have xG5 := kG5.lt
        have s5 : w2.heap.size ≤ w5.heap.size := hb5.size
        have B5 : Below w.heap.size w w5 := (B2).trans (hb5.mono (by first | omega | (simp <;> omega)))
        have k1_0v5 := (k1_0v2).st hb5
        have k1_1v5 := (k1_1v2).st hb5
        clear k1_0v2 k1_1v2 xk1_0v2 ck1_0v2_0 ck1_0v2_1 ck1_0v2_2 xk1_1v2 ck1_1v2_0 ck1_1v2_1 ck1_1v2_2
        have xk1_0v5 := k1_0v5.lt
        have ck1_0v5_0 := k1_0v5.cell 0
        simp at ck1_0v5_0
        have ck1_0v5_1 := k1_0v5.cell 1
        simp at ck1_0v5_1
        have ck1_0v5_2 := k1_0v5.cell 2
        simp at ck1_0v5_2
        go_wp2_with fail
        ((with_reducible refine (toKeyBook_any a0_0 a0_1 a0_2 Aa0_2 ca0_2 _ ((h0_0.below B5 (Nat.le_refl _))) (by omega)).mono ?_); rintro e w6 ⟨A6_0, c6_0, rfl, o6_0, hb6⟩)
        have s6 : w5.heap.size ≤ w6.heap.size := by have := hb6.size; simpa using this
        have B6 : Below w.heap.size w w6 := (B5).trans (hb6.mono (by first | omega | (simp <;> omega)))
        have k1_0v6 := (k1_0v5).st hb6
        have k1_1v6 := (k1_1v5).st hb6
        have o5_0_0v6 := (o5_0_0).st hb6
        have kG5v6 := (kG5).st hb6
        clear k1_0v5 k1_1v5 o5_0_0 kG5 xk1_0v5 ck1_0v5_0 ck1_0v5_1 ck1_0v5_2
        have xk1_1v6 := k1_1v6.lt
        have ck1_1v6_0 := k1_1v6.cell 0
        simp at ck1_1v6_0
        have ck1_1v6_1 := k1_1v6.cell 1
        simp at ck1_1v6_1
        have ck1_1v6_2 := k1_1v6.cell 2
        simp at ck1_1v6_2
        go_wp2_with fail
        ((with_reducible refine (toKeyBook_any a1_0 a1_1 a1_2 Aa1_2 ca1_2 _ (((h1_0.below B6 (Nat.le_refl _))).alloc _) (by omega)).mono ?_); rintro e w7 ⟨A7_0, c7_0, rfl, o7_0, hb7⟩)
        have s7 : w6.heap.size + 1 ≤ w7.heap.size := by have := hb7.size; simpa using this
        have B7 : Below w.heap.size w w7 := ((B6).alloc (by first | omega | (simp <;> omega)) _).trans (hb7.mono (by first | omega | (simp <;> omega)))
        have k1_0v7 := ((k1_0v6).alloc _).st hb7
        have k1_1v7 := ((k1_1v6).alloc _).st hb7
        have o5_0_0v7 := ((o5_0_0v6).alloc _).st hb7
        have kG5v7 := ((kG5v6).alloc _).st hb7
        have o6_0v7 := ((o6_0).alloc _).st hb7
        have k7_0 := (Bk.new w6 _ _).st hb7
        clear k1_0v6 k1_1v6 o5_0_0v6 kG5v6 o6_0 xk1_1v6 ck1_1v6_0 ck1_1v6_1 ck1_1v6_2
        have xk7_0 := k7_0.lt
        have ck7_0_0 := k7_0.cell 0
        simp at ck7_0_0
        have ck7_0_1 := k7_0.cell 1
        simp at ck7_0_1
        have ck7_0_2 := k7_0.cell 2
        simp at ck7_0_2
        go_wp2_with fail
        ((with_reducible refine (iMergeKeyBooks_any a0_0 a0_1 a0_2 A6_0 c6_0 a1_0 a1_1 a1_2 A7_0 c7_0 _ (((o6_0v7).alloc _).rd') (((o7_0).alloc _).rd') (by omega) (by omega) ).mono ?_); rintro e w8 ⟨A8_0_0, c8_0_0, rfl, o8_0_0, l8_0, hb8⟩)
        have s8 : w7.heap.size + 1 ≤ w8.heap.size := by have := hb8.size; simpa using this
        have B8 : Below w.heap.size w w8 := ((B7).alloc (by first | omega | (simp <;> omega)) _).trans (hb8.mono (by first | omega | (simp <;> omega)))
        have k1_0v8 := ((k1_0v7).alloc _).st hb8
        have k1_1v8 := ((k1_1v7).alloc _).st hb8
        have o5_0_0v8 := ((o5_0_0v7).alloc _).st hb8
        have kG5v8 := ((kG5v7).alloc _).st hb8
        have o6_0v8 := ((o6_0v7).alloc _).st hb8
        have k7_0v8 := ((k7_0).alloc _).st hb8
        have o7_0v8 := ((o7_0).alloc _).st hb8
        have k8_0 := (Bk.new w7 _ _).st hb8
        clear k1_0v7 k1_1v7 o5_0_0v7 kG5v7 o6_0v7 k7_0 o7_0 xk7_0 ck7_0_0 ck7_0_1 ck7_0_2
        have hq0 := eqKb_self (mbK a0_0 a0_1 a0_2 a1_0 a1_1 a1_2) (mbG a0_0 a0_1 a0_2 a1_0 a1_1 a1_2) (mbL a0_0 a0_1 a0_2 a1_0 a1_1 a1_2)
        have xkG5v8 := kG5v8.lt
        have ckG5v8_0 := kG5v8.cell 0
        simp at ckG5v8_0
        have ckG5v8_1 := kG5v8.cell 1
        simp at ckG5v8_1
        have ckG5v8_2 := kG5v8.cell 2
        simp at ckG5v8_2
        go_wp2_with fail
        ((with_reducible refine (eqKeyBook_b (mbK a0_0 a0_1 a0_2 a1_0 a1_1 a1_2) (mbG a0_0 a0_1 a0_2 a1_0 a1_1 a1_2) (mbL a0_0 a0_1 a0_2 a1_0 a1_1 a1_2) A8_0_0 c8_0_0 (mbK a0_0 a0_1 a0_2 a1_0 a1_1 a1_2) (mbG a0_0 a0_1 a0_2 a1_0 a1_1 a1_2) (mbL a0_0 a0_1 a0_2 a1_0 a1_1 a1_2) A5_0_0 c5_0_0 _ (((o8_0_0).alloc _).rd') ((o5_0_0v8).alloc _) (by omega) (by omega)).mono ?_); rintro e w9 ⟨rfl, hb9⟩)
        have s9 : w8.heap.size + 1 ≤ w9.heap.size := by have := hb9.size; simpa using this
        have B9 : Below w.heap.size w w9 := ((B8).alloc (by first | omega | (simp <;> omega)) _).trans (hb9.mono (by first | omega | (simp <;> omega)))
        have k1_0v9 := ((k1_0v8).alloc _).st hb9
        have k1_1v9 := ((k1_1v8).alloc _).st hb9
        have o5_0_0v9 := ((o5_0_0v8).alloc _).st hb9
        have kG5v9 := ((kG5v8).alloc _).st hb9
        have o6_0v9 := ((o6_0v8).alloc _).st hb9
        have k7_0v9 := ((k7_0v8).alloc _).st hb9
        have o7_0v9 := ((o7_0v8).alloc _).st hb9
        have k8_0v9 := ((k8_0).alloc _).st hb9
        have o8_0_0v9 := ((o8_0_0).alloc _).st hb9
        have k9_0 := (Bk.new w8 _ _).st hb9
        clear k1_0v8 k1_1v8 o5_0_0v8 kG5v8 o6_0v8 k7_0v8 o7_0v8 k8_0 o8_0_0 xkG5v8 ckG5v8_0 ckG5v8_1 ckG5v8_2
        have hq1 := eqKb_self a0_0 a0_1 a0_2
        have xk7_0v9 := k7_0v9.lt
        have ck7_0v9_0 := k7_0v9.cell 0
        simp at ck7_0v9_0
        have ck7_0v9_1 := k7_0v9.cell 1
        simp at ck7_0v9_1
        have ck7_0v9_2 := k7_0v9.cell 2
        simp at ck7_0v9_2
        have xk1_0v9 := k1_0v9.lt
        have ck1_0v9_0 := k1_0v9.cell 0
        simp at ck1_0v9_0
        have ck1_0v9_1 := k1_0v9.cell 1
        simp at ck1_0v9_1
        have ck1_0v9_2 := k1_0v9.cell 2
        simp at ck1_0v9_2
        go_wp2_with fail
        go_region_held3 (fun w' => w'.cell? ⟨w6.heap.size, 0, none⟩ = some (.int .i64 a0_0) ∧ w'.cell? ⟨w6.heap.size, 1, none⟩ = some (.int .i64 a0_1) ∧ w'.cell? ⟨w6.heap.size, 2, none⟩ = some (.slice A6_0 a0_2.length c6_0) ∧ w'.cell? ⟨w.heap.size, 0, none⟩ = some (.int .i64 a0_0) ∧ w'.cell? ⟨w.heap.size, 1, none⟩ = some (.int .i64 a0_1) ∧ w'.cell? ⟨w.heap.size, 2, none⟩ = some (.slice Aa0_2 a0_2.length ca0_2)) (first | go_keep | ((try go_split_ands); (try dsimp only); (repeat' apply And.intro) <;> (first | go_keep | ((refine (hc11 _ _ ?_).trans ?_) <;> first | assumption | omega | (simp <;> omega)) | ((refine (hc10 _ _ ?_).trans ?_) <;> first | assumption | omega | (simp <;> omega)) | ((with_reducible refine cell_realloc ?_ (by with_reducible assumption)) <;> first | (dsimp only; omega) | omega))))
          (first
            | (go_at_call 14; ((with_reducible refine (toKeyBook_any a0_0 a0_1 a0_2 Aa0_2 ca0_2 _ (((h0_0.below B9 (Nat.le_refl _))).drew) (by omega)).mono ?_); rintro e w10 ⟨A10_0, c10_0, rfl, o10_0, hb10⟩; (have s10 : w9.heap.size ≤ w10.heap.size := by have := hb10.size; simpa using this); (have B10 : Below w.heap.size w w10 := ((B9).drew).trans (hb10.mono (by first | omega | (simp <;> omega)))); (have k1_0v10 := ((k1_0v9).drew).st hb10); (have k1_1v10 := ((k1_1v9).drew).st hb10); (have o5_0_0v10 := ((o5_0_0v9).drew).st hb10); (have kG5v10 := ((kG5v9).drew).st hb10); (have o6_0v10 := ((o6_0v9).drew).st hb10); (have k7_0v10 := ((k7_0v9).drew).st hb10); (have o7_0v10 := ((o7_0v9).drew).st hb10); (have k8_0v10 := ((k8_0v9).drew).st hb10); (have o8_0_0v10 := ((o8_0_0v9).drew).st hb10); (have k9_0v10 := ((k9_0).drew).st hb10); (have hc10 := (bcell hb10).1)))
            | (go_at_call 16; ((with_reducible refine (eqKeyBook_b a0_0 a0_1 a0_2 A6_0 c6_0 a0_0 a0_1 a0_2 A10_0 c10_0 _ ((o6_0v10).rd') ((o10_0).rd') (by omega) (by omega)).mono ?_); rintro e w11 ⟨rfl, hb11⟩; (have s11 : w10.heap.size ≤ w11.heap.size := by have := hb11.size; simpa using this); (have B11 : Below w.heap.size w w11 := (B10).trans (hb11.mono (by first | omega | (simp <;> omega)))); (have k1_0v11 := (k1_0v10).st hb11); (have k1_1v11 := (k1_1v10).st hb11); (have o5_0_0v11 := (o5_0_0v10).st hb11); (have kG5v11 := (kG5v10).st hb11); (have o6_0v11 := (o6_0v10).st hb11); (have k7_0v11 := (k7_0v10).st hb11); (have o7_0v11 := (o7_0v10).st hb11); (have k8_0v11 := (k8_0v10).st hb11); (have o8_0_0v11 := (o8_0_0v10).st hb11); (have k9_0v11 := (k9_0v10).st hb11); (have o10_0v11 := (o10_0).st hb11); (have hc11 := (bcell hb11).1))))
        clear xk7_0v9 ck7_0v9_0 ck7_0v9_1 ck7_0v9_2 xk1_0v9 ck1_0v9_0 ck1_0v9_1 ck1_0v9_2
        have hq2 := eqKb_self a1_0 a1_1 a1_2
        have xk8_0v11 := k8_0v11.lt
        have ck8_0v11_0 := k8_0v11.cell 0
        simp at ck8_0v11_0
        have ck8_0v11_1 := k8_0v11.cell 1
        simp at ck8_0v11_1
        have ck8_0v11_2 := k8_0v11.cell 2
        simp at ck8_0v11_2
        have xk1_1v11 := k1_1v11.lt
        have ck1_1v11_0 := k1_1v11.cell 0
        simp at ck1_1v11_0
        have ck1_1v11_1 := k1_1v11.cell 1
        simp at ck1_1v11_1
        have ck1_1v11_2 := k1_1v11.cell 2
        simp at ck1_1v11_2
        go_wp2_with fail
        go_region_held3 (fun w' => w'.cell? ⟨w7.heap.size, 0, none⟩ = some (.int .i64 a1_0) ∧ w'.cell? ⟨w7.heap.size, 1, none⟩ = some (.int .i64 a1_1) ∧ w'.cell? ⟨w7.heap.size, 2, none⟩ = some (.slice A7_0 a1_2.length c7_0) ∧ w'.cell? ⟨w.heap.size + 1, 0, none⟩ = some (.int .i64 a1_0) ∧ w'.cell? ⟨w.heap.size + 1, 1, none⟩ = some (.int .i64 a1_1) ∧ w'.cell? ⟨w.heap.size + 1, 2, none⟩ = some (.slice Aa1_2 a1_2.length ca1_2)) (first | go_keep | ((try go_split_ands); (try dsimp only); (repeat' apply And.intro) <;> (first | go_keep | ((refine (hc13 _ _ ?_).trans ?_) <;> first | assumption | omega | (simp <;> omega)) | ((refine (hc12 _ _ ?_).trans ?_) <;> first | assumption | omega | (simp <;> omega)) | ((with_reducible refine cell_realloc ?_ (by with_reducible assumption)) <;> first | (dsimp only; omega) | omega))))
          (first
            | (go_at_call 14; ((with_reducible refine (toKeyBook_any a1_0 a1_1 a1_2 Aa1_2 ca1_2 _ (((h1_0.below B11 (Nat.le_refl _))).drew) (by omega)).mono ?_); rintro e w12 ⟨A12_0, c12_0, rfl, o12_0, hb12⟩; (have s12 : w11.heap.size ≤ w12.heap.size := by have := hb12.size; simpa using this); (have B12 : Below w.heap.size w w12 := ((B11).drew).trans (hb12.mono (by first | omega | (simp <;> omega)))); (have k1_0v12 := ((k1_0v11).drew).st hb12); (have k1_1v12 := ((k1_1v11).drew).st hb12); (have o5_0_0v12 := ((o5_0_0v11).drew).st hb12); (have kG5v12 := ((kG5v11).drew).st hb12); (have o6_0v12 := ((o6_0v11).drew).st hb12); (have k7_0v12 := ((k7_0v11).drew).st hb12); (have o7_0v12 := ((o7_0v11).drew).st hb12); (have k8_0v12 := ((k8_0v11).drew).st hb12); (have o8_0_0v12 := ((o8_0_0v11).drew).st hb12); (have k9_0v12 := ((k9_0v11).drew).st hb12); (have hc12 := (bcell hb12).1)))
            | (go_at_call 16; ((with_reducible refine (eqKeyBook_b a1_0 a1_1 a1_2 A7_0 c7_0 a1_0 a1_1 a1_2 A12_0 c12_0 _ ((o7_0v12).rd') ((o12_0).rd') (by omega) (by omega)).mono ?_); rintro e w13 ⟨rfl, hb13⟩; (have s13 : w12.heap.size ≤ w13.heap.size := by have := hb13.size; simpa using this); (have B13 : Below w.heap.size w w13 := (B12).trans (hb13.mono (by first | omega | (simp <;> omega)))); (have k1_0v13 := (k1_0v12).st hb13); (have k1_1v13 := (k1_1v12).st hb13); (have o5_0_0v13 := (o5_0_0v12).st hb13); (have kG5v13 := (kG5v12).st hb13); (have o6_0v13 := (o6_0v12).st hb13); (have k7_0v13 := (k7_0v12).st hb13); (have o7_0v13 := (o7_0v12).st hb13); (have k8_0v13 := (k8_0v12).st hb13); (have o8_0_0v13 := (o8_0_0v12).st hb13); (have k9_0v13 := (k9_0v12).st hb13); (have o12_0v13 := (o12_0).st hb13); (have hc13 := (bcell hb13).1))))
        clear xk8_0v11 ck8_0v11_0 ck8_0v11_1 ck8_0v11_2 xk1_1v11 ck1_1v11_0 ck1_1v11_1 ck1_1v11_2
        have xk7_0v13 := k7_0v13.lt
        have ck7_0v13_0 := k7_0v13.cell 0
        simp at ck7_0v13_0
        have ck7_0v13_1 := k7_0v13.cell 1
        simp at ck7_0v13_1
        have ck7_0v13_2 := k7_0v13.cell 2
        simp at ck7_0v13_2
        go_wp2_with fail
        ((with_reducible refine (markKeyBook_b a0_0 a0_1 a0_2 A6_0 c6_0 1 _ o6_0v13 (by omega) (by omega)).mono ?_); rintro e w14 ⟨rfl, f14_0, hb14⟩)
        have s14 : w13.heap.size ≤ w14.heap.size := by have := hb14.size; simpa using this
        have B14 : Below w.heap.size w w14 := (B13).trans (hb14.below (by first | omega | (simp <;> omega)) (by first | omega | (simp <;> omega)))
        have k1_0v14 := (k1_0v13).fr hb14 (by first | omega | (simp <;> omega))
        have k1_1v14 := (k1_1v13).fr hb14 (by first | omega | (simp <;> omega))
        have o5_0_0v14 := (o5_0_0v13).fr hb14 (by first | omega | (simp <;> omega))
        have kG5v14 := (kG5v13).fr hb14 (by first | omega | (simp <;> omega))
        have k7_0v14 := (k7_0v13).fr hb14 (by first | omega | (simp <;> omega))
        have o7_0v14 := (o7_0v13).fr hb14 (by first | omega | (simp <;> omega))
        have k8_0v14 := (k8_0v13).fr hb14 (by first | omega | (simp <;> omega))
        have o8_0_0v14 := (o8_0_0v13).fr hb14 (by first | omega | (simp <;> omega))
        have k9_0v14 := (k9_0v13).fr hb14 (by first | omega | (simp <;> omega))
        clear k1_0v13 k1_1v13 o5_0_0v13 kG5v13 k7_0v13 o7_0v13 k8_0v13 o8_0_0v13 k9_0v13 xk7_0v13 ck7_0v13_0 ck7_0v13_1 ck7_0v13_2
        have xk8_0v14 := k8_0v14.lt
        have ck8_0v14_0 := k8_0v14.cell 0
        simp at ck8_0v14_0
        have ck8_0v14_1 := k8_0v14.cell 1
        simp at ck8_0v14_1
        have ck8_0v14_2 := k8_0v14.cell 2
        simp at ck8_0v14_2
        go_wp2_with fail
        ((with_reducible refine (markKeyBook_b a1_0 a1_1 a1_2 A7_0 c7_0 (1 + (a0_2.length : Int)) _ o7_0v14 (by omega) (by omega)).mono ?_); rintro e w15 ⟨rfl, f15_0, hb15⟩)
        have s15 : w14.heap.size ≤ w15.heap.size := by have := hb15.size; simpa using this
        have B15 : Below w.heap.size w w15 := (B14).trans (hb15.below (by first | omega | (simp <;> omega)) (by first | omega | (simp <;> omega)))
        have k1_0v15 := (k1_0v14).fr hb15 (by first | omega | (simp <;> omega))
        have k1_1v15 := (k1_1v14).fr hb15 (by first | omega | (simp <;> omega))
        have o5_0_0v15 := (o5_0_0v14).fr hb15 (by first | omega | (simp <;> omega))
        have kG5v15 := (kG5v14).fr hb15 (by first | omega | (simp <;> omega))
        have k8_0v15 := (k8_0v14).fr hb15 (by first | omega | (simp <;> omega))
        have o8_0_0v15 := (o8_0_0v14).fr hb15 (by first | omega | (simp <;> omega))
        have k9_0v15 := (k9_0v14).fr hb15 (by first | omega | (simp <;> omega))
        clear k1_0v14 k1_1v14 o5_0_0v14 kG5v14 k8_0v14 o8_0_0v14 k9_0v14 xk8_0v14 ck8_0v14_0 ck8_0v14_1 ck8_0v14_2
        have xk9_0v15 := k9_0v15.lt
        have ck9_0v15_0 := k9_0v15.cell 0
        simp at ck9_0v15_0
        have ck9_0v15_1 := k9_0v15.cell 1
        simp at ck9_0v15_1
        have ck9_0v15_2 := k9_0v15.cell 2
        simp at ck9_0v15_2
        have xkG5v15 := kG5v15.lt
        have ckG5v15_0 := kG5v15.cell 0
        simp at ckG5v15_0
        have ckG5v15_1 := kG5v15.cell 1
        simp at ckG5v15_1
        have ckG5v15_2 := kG5v15.cell 2
        simp at ckG5v15_2
        go_wp2_with fail
        ((with_reducible refine (eqKeyBook_b (mbK a0_0 a0_1 a0_2 a1_0 a1_1 a1_2) (mbG a0_0 a0_1 a0_2 a1_0 a1_1 a1_2) (mbL a0_0 a0_1 a0_2 a1_0 a1_1 a1_2) A8_0_0 c8_0_0 (mbK a0_0 a0_1 a0_2 a1_0 a1_1 a1_2) (mbG a0_0 a0_1 a0_2 a1_0 a1_1 a1_2) (mbL a0_0 a0_1 a0_2 a1_0 a1_1 a1_2) A5_0_0 c5_0_0 _ ((o8_0_0v15).rd') o5_0_0v15 (by omega) (by omega)).mono ?_); rintro e w16 ⟨rfl, hb16⟩)
        have s16 : w15.heap.size ≤ w16.heap.size := by have := hb16.size; simpa using this
        have B16 : Below w.heap.size w w16 := (B15).trans (hb16.mono (by first | omega | (simp <;> omega)))
        have k1_0v16 := (k1_0v15).st hb16
        have k1_1v16 := (k1_1v15).st hb16
        have o5_0_0v16 := (o5_0_0v15).st hb16
        have kG5v16 := (kG5v15).st hb16
        have o8_0_0v16 := (o8_0_0v15).st hb16
        have k9_0v16 := (k9_0v15).st hb16
        clear k1_0v15 k1_1v15 o5_0_0v15 kG5v15 o8_0_0v15 k9_0v15 xk9_0v15 ck9_0v15_0 ck9_0v15_1 ck9_0v15_2 xkG5v15 ckG5v15_0 ckG5v15_1 ckG5v15_2
        have xk9_0v16 := k9_0v16.lt
        have ck9_0v16_0 := k9_0v16.cell 0
        simp at ck9_0v16_0
        have ck9_0v16_1 := k9_0v16.cell 1
        simp at ck9_0v16_1
        have ck9_0v16_2 := k9_0v16.cell 2
        simp at ck9_0v16_2
        go_wp2_with fail
        ((with_reducible refine (markKeyBook_b (mbK a0_0 a0_1 a0_2 a1_0 a1_1 a1_2) (mbG a0_0 a0_1 a0_2 a1_0 a1_1 a1_2) (mbL a0_0 a0_1 a0_2 a1_0 a1_1 a1_2) A8_0_0 c8_0_0 1 _ o8_0_0v16 (by omega) (by omega)).mono ?_); rintro e w17 ⟨rfl, f17_0, hb17⟩)
        have s17 : w16.heap.size ≤ w17.heap.size := by have := hb17.size; simpa using this
        have B17 : Below w.heap.size w w17 := (B16).trans (hb17.below (by first | omega | (simp <;> omega)) (by first | omega | (simp <;> omega)))
        have k1_0v17 := (k1_0v16).fr hb17 (by first | omega | (simp <;> omega))
        have k1_1v17 := (k1_1v16).fr hb17 (by first | omega | (simp <;> omega))
        have o5_0_0v17 := (o5_0_0v16).fr hb17 (by first | omega | (simp <;> omega))
        have kG5v17 := (kG5v16).fr hb17 (by first | omega | (simp <;> omega))
        have k9_0v17 := (k9_0v16).fr hb17 (by first | omega | (simp <;> omega))
        clear k1_0v16 k1_1v16 o5_0_0v16 kG5v16 k9_0v16 xk9_0v16 ck9_0v16_0 ck9_0v16_1 ck9_0v16_2
        have xk9_0v17 := k9_0v17.lt
        have ck9_0v17_0 := k9_0v17.cell 0
        simp at ck9_0v17_0
        have ck9_0v17_1 := k9_0v17.cell 1
        simp at ck9_0v17_1
        have ck9_0v17_2 := k9_0v17.cell 2
        simp at ck9_0v17_2
        go_wp2_with fail
        ((with_reducible refine (heldKeyBook_b (mbK a0_0 a0_1 a0_2 a1_0 a1_1 a1_2) (mbG a0_0 a0_1 a0_2 a1_0 a1_1 a1_2) (mbL a0_0 a0_1 a0_2 a1_0 a1_1 a1_2) A8_0_0 c8_0_0 1 _ ((f17_0).rd') (by omega) (by omega)).mono ?_); rintro e w18 ⟨rfl, hb18⟩)
        have s18 : w17.heap.size ≤ w18.heap.size := by have := hb18.size; simpa using this
        have B18 : Below w.heap.size w w18 := (B17).trans (hb18.mono (by first | omega | (simp <;> omega)))
        have k1_0v18 := (k1_0v17).st hb18
        have k1_1v18 := (k1_1v17).st hb18
        have o5_0_0v18 := (o5_0_0v17).st hb18
        have kG5v18 := (kG5v17).st hb18
        have f17_0v18 := (f17_0).st hb18
        have k9_0v18 := (k9_0v17).st hb18
        clear k1_0v17 k1_1v17 o5_0_0v17 kG5v17 f17_0 k9_0v17 xk9_0v17 ck9_0v17_0 ck9_0v17_1 ck9_0v17_2
        have xk1_0v18 := k1_0v18.lt
        have ck1_0v18_0 := k1_0v18.cell 0
        simp at ck1_0v18_0
        have ck1_0v18_1 := k1_0v18.cell 1
        simp at ck1_0v18_1
        have ck1_0v18_2 := k1_0v18.cell 2
        simp at ck1_0v18_2
        have xk1_1v18 := k1_1v18.lt
        have ck1_1v18_0 := k1_1v18.cell 0
        simp at ck1_1v18_0
        have ck1_1v18_1 := k1_1v18.cell 1
        simp at ck1_1v18_1
        have ck1_1v18_2 := k1_1v18.cell 2
        simp at ck1_1v18_2
        go_upto_region 31 with fail
        go_cut [15, 16] from 17 (fun s15_ s16_ wq => ∃ (G : Nat) (A21_0_0 : Option Addr) (c21_0_0 : Nat) , s15_ = .pointer (some ⟨G, 0, none⟩) ∧ s16_ = .bool (kpB a0_0 a0_1 a0_2 a1_0 a1_1 a1_2) ∧ w18.heap.size ≤ G ∧ Own wq w18.heap.size wq.heap.size (.slice A21_0_0 (mbL a0_0 a0_1 a0_2 a1_0 a1_1 a1_2).length c21_0_0) (mbL a0_0 a0_1 a0_2 a1_0 a1_1 a1_2) ∧ (mbL a0_0 a0_1 a0_2 a1_0 a1_1 a1_2).length ≤ 1048576 ∧ Bk wq G 26 #[.int .i64 (mbK a0_0 a0_1 a0_2 a1_0 a1_1 a1_2), .int .i64 (mbG a0_0 a0_1 a0_2 a1_0 a1_1 a1_2), .slice A21_0_0 (mbL a0_0 a0_1 a0_2 a1_0 a1_1 a1_2).length c21_0_0] ∧ Below w18.heap.size w18 wq)
        case first =>
          go_wp2_with fail
          go_region_held3 (fun w' => w'.cell? ⟨w.heap.size, 0, none⟩ = some (.int .i64 a0_0) ∧ w'.cell? ⟨w.heap.size, 1, none⟩ = some (.int .i64 a0_1) ∧ w'.cell? ⟨w.heap.size, 2, none⟩ = some (.slice Aa0_2 a0_2.length ca0_2) ∧ w'.cell? ⟨w.heap.size + 1, 0, none⟩ = some (.int .i64 a1_0) ∧ w'.cell? ⟨w.heap.size + 1, 1, none⟩ = some (.int .i64 a1_1) ∧ w'.cell? ⟨w.heap.size + 1, 2, none⟩ = some (.slice Aa1_2 a1_2.length ca1_2)) (((try go_split_ands); (try dsimp only); (repeat' apply And.intro) <;> (first | with_reducible assumption | with_reducible exact cellF3 (by omega) (by with_reducible assumption) | ((with_reducible refine cell_realloc ?_ (by with_reducible assumption)) <;> first | (dsimp only; omega) | omega) | ((with_reducible refine (World.cell?_alloc_lt _ _ _ ?_).trans ?_) <;> first | with_reducible assumption | omega | (simp <;> omega)) | ((with_reducible refine (hc21 _ _ ?_).trans ?_) <;> first | with_reducible assumption | omega | (simp <;> omega)) | ((with_reducible refine (hc20 _ _ ?_).trans ?_) <;> first | with_reducible assumption | omega | (simp <;> omega)) | ((with_reducible refine (hc19 _ _ ?_).trans ?_) <;> first | with_reducible assumption | omega | (simp <;> omega)) | go_keep)))
            (first
              | (go_at_call 14; ((with_reducible refine (toKeyBook_any a0_0 a0_1 a0_2 Aa0_2 ca0_2 _ (((h0_0.below B18 (Nat.le_refl _))).drew) (by omega)).mono ?_); rintro e w19 ⟨A19_0, c19_0, rfl, o19_0, hb19⟩; (have s19 : w18.heap.size ≤ w19.heap.size := by have := hb19.size; simpa using this); (have B19 : Below w.heap.size w w19 := ((B18).drew).trans (hb19.mono (by first | omega | (simp <;> omega)))); (have k1_0v19 := ((k1_0v18).drew).st hb19); (have k1_1v19 := ((k1_1v18).drew).st hb19); (have o5_0_0v19 := ((o5_0_0v18).drew).st hb19); (have kG5v19 := ((kG5v18).drew).st hb19); (have f17_0v19 := ((f17_0v18).drew).st hb19); (have k9_0v19 := ((k9_0v18).drew).st hb19); (have H19 : Below w18.heap.size w18 w19 := ((((Below.refl w18.heap.size w18))).drew).trans (hb19.mono (by first | omega | (simp <;> omega)))); (have hc19 := (bcell hb19).1); (try (have kG19 := kG18.st hb19))))
              | (go_at_call 14; ((with_reducible refine (toKeyBook_any a0_0 a0_1 a0_2 Aa0_2 ca0_2 _ ((((h0_0.below B18 (Nat.le_refl _))).alloc _).drew) (by omega)).mono ?_); rintro e w19 ⟨A19_0, c19_0, rfl, o19_0, hb19⟩; (have s19 : w18.heap.size + 1 ≤ w19.heap.size := by have := hb19.size; simpa using this); (have B19 : Below w.heap.size w w19 := (((B18).alloc (by first | omega | (simp <;> omega)) _).drew).trans (hb19.mono (by first | omega | (simp <;> omega)))); (have k1_0v19 := (((k1_0v18).alloc _).drew).st hb19); (have k1_1v19 := (((k1_1v18).alloc _).drew).st hb19); (have o5_0_0v19 := (((o5_0_0v18).alloc _).drew).st hb19); (have kG5v19 := (((kG5v18).alloc _).drew).st hb19); (have f17_0v19 := (((f17_0v18).alloc _).drew).st hb19); (have k9_0v19 := (((k9_0v18).alloc _).drew).st hb19); (have H19 : Below w18.heap.size w18 w19 := (((((Below.refl w18.heap.size w18))).alloc (by first | omega | (simp <;> omega)) _).drew).trans (hb19.mono (by first | omega | (simp <;> omega)))); (have hc19 := (bcell hb19).1); (have kG19 := ((Bk.new w18 26 #[.int .i64 0, .int .i64 0, .slice none 0 0]).drew).st hb19)))
              | (go_at_call 14; ((with_reducible refine (toKeyBook_any a1_0 a1_1 a1_2 Aa1_2 ca1_2 _ ((h1_0.below B19 (Nat.le_refl _))) (by omega)).mono ?_); rintro e w20 ⟨A20_0, c20_0, rfl, o20_0, hb20⟩; (have s20 : w19.heap.size ≤ w20.heap.size := by have := hb20.size; simpa using this); (have B20 : Below w.heap.size w w20 := (B19).trans (hb20.mono (by first | omega | (simp <;> omega)))); (have k1_0v20 := (k1_0v19).st hb20); (have k1_1v20 := (k1_1v19).st hb20); (have o5_0_0v20 := (o5_0_0v19).st hb20); (have kG5v20 := (kG5v19).st hb20); (have f17_0v20 := (f17_0v19).st hb20); (have k9_0v20 := (k9_0v19).st hb20); (have o19_0v20 := (o19_0).st hb20); (have H20 : Below w18.heap.size w18 w20 := ((H19)).trans (hb20.mono (by first | omega | (simp <;> omega)))); (have hc20 := (bcell hb20).1); (try (have kG20 := kG19.st hb20))))
              | (go_at_call 14; ((with_reducible refine (toKeyBook_any a1_0 a1_1 a1_2 Aa1_2 ca1_2 _ (((h1_0.below B19 (Nat.le_refl _))).alloc _) (by omega)).mono ?_); rintro e w20 ⟨A20_0, c20_0, rfl, o20_0, hb20⟩; (have s20 : w19.heap.size + 1 ≤ w20.heap.size := by have := hb20.size; simpa using this); (have B20 : Below w.heap.size w w20 := ((B19).alloc (by first | omega | (simp <;> omega)) _).trans (hb20.mono (by first | omega | (simp <;> omega)))); (have k1_0v20 := ((k1_0v19).alloc _).st hb20); (have k1_1v20 := ((k1_1v19).alloc _).st hb20); (have o5_0_0v20 := ((o5_0_0v19).alloc _).st hb20); (have kG5v20 := ((kG5v19).alloc _).st hb20); (have f17_0v20 := ((f17_0v19).alloc _).st hb20); (have k9_0v20 := ((k9_0v19).alloc _).st hb20); (have o19_0v20 := ((o19_0).alloc _).st hb20); (have H20 : Below w18.heap.size w18 w20 := (((H19)).alloc (by first | omega | (simp <;> omega)) _).trans (hb20.mono (by first | omega | (simp <;> omega)))); (have hc20 := (bcell hb20).1); (have kG20 := ((Bk.new w19 26 #[.int .i64 0, .int .i64 0, .slice none 0 0])).st hb20)))
              | (go_at_call 31; ((with_reducible refine (iMergeKeyBooks_any a0_0 a0_1 a0_2 A19_0 c19_0 a1_0 a1_1 a1_2 A20_0 c20_0 _ ((o19_0v20).rd') ((o20_0).rd') (by omega) (by omega) ).mono ?_); rintro e w21 ⟨A21_0_0, c21_0_0, rfl, o21_0_0, l21_0, hb21⟩; (have s21 : w20.heap.size ≤ w21.heap.size := by have := hb21.size; simpa using this); (have B21 : Below w.heap.size w w21 := (B20).trans (hb21.mono (by first | omega | (simp <;> omega)))); (have k1_0v21 := (k1_0v20).st hb21); (have k1_1v21 := (k1_1v20).st hb21); (have o5_0_0v21 := (o5_0_0v20).st hb21); (have kG5v21 := (kG5v20).st hb21); (have f17_0v21 := (f17_0v20).st hb21); (have k9_0v21 := (k9_0v20).st hb21); (have o19_0v21 := (o19_0v20).st hb21); (have o20_0v21 := (o20_0).st hb21); (have H21 : Below w18.heap.size w18 w21 := ((H20)).trans (hb21.mono (by first | omega | (simp <;> omega)))); (have hc21 := (bcell hb21).1); (try (have kG21 := kG20.st hb21)); (try (have g0 : _ = some (Value.int .i64 0) := kG21.cell 0)); (try (have g1 : _ = some (Value.int .i64 0) := kG21.cell 1)); (try (have g2 : _ = some (Value.slice none 0 0) := kG21.cell 2)); (try (have gf0 := kG21.frozen 0)); (try (have gf1 := kG21.frozen 1)); (try (have gf2 := kG21.frozen 2)); (try (have gl := kG21.lt))))
              | (go_at_call 31; ((with_reducible refine (iMergeKeyBooks_any a0_0 a0_1 a0_2 A19_0 c19_0 a1_0 a1_1 a1_2 A20_0 c20_0 _ (((o19_0v20).alloc _).rd') (((o20_0).alloc _).rd') (by omega) (by omega) ).mono ?_); rintro e w21 ⟨A21_0_0, c21_0_0, rfl, o21_0_0, l21_0, hb21⟩; (have s21 : w20.heap.size + 1 ≤ w21.heap.size := by have := hb21.size; simpa using this); (have B21 : Below w.heap.size w w21 := ((B20).alloc (by first | omega | (simp <;> omega)) _).trans (hb21.mono (by first | omega | (simp <;> omega)))); (have k1_0v21 := ((k1_0v20).alloc _).st hb21); (have k1_1v21 := ((k1_1v20).alloc _).st hb21); (have o5_0_0v21 := ((o5_0_0v20).alloc _).st hb21); (have kG5v21 := ((kG5v20).alloc _).st hb21); (have f17_0v21 := ((f17_0v20).alloc _).st hb21); (have k9_0v21 := ((k9_0v20).alloc _).st hb21); (have o19_0v21 := ((o19_0v20).alloc _).st hb21); (have o20_0v21 := ((o20_0).alloc _).st hb21); (have H21 : Below w18.heap.size w18 w21 := (((H20)).alloc (by first | omega | (simp <;> omega)) _).trans (hb21.mono (by first | omega | (simp <;> omega)))); (have hc21 := (bcell hb21).1); (have kG21 := ((Bk.new w20 26 #[.int .i64 0, .int .i64 0, .slice none 0 0])).st hb21); (try (have g0 : _ = some (Value.int .i64 0) := kG21.cell 0)); (try (have g1 : _ = some (Value.int .i64 0) := kG21.cell 1)); (try (have g2 : _ = some (Value.slice none 0 0) := kG21.cell 2)); (try (have gf0 := kG21.frozen 0)); (try (have gf1 := kG21.frozen 1)); (try (have gf2 := kG21.frozen 2)); (try (have gl := kG21.lt)))))
          all_goals
            clear xk1_0v18 ck1_0v18_0 ck1_0v18_1 ck1_0v18_2 xk1_1v18 ck1_1v18_0 ck1_1v18_1 ck1_1v18_2
            go_wp2_with fail
            go_meet
            case rel => first | exact ⟨_, _, _, rfl, rfl, (by first | omega | (simp <;> omega)), ((ownF3 o21_0_0 (by first | omega | (simp <;> omega))).mono (by first | omega | (simp <;> omega)) (by first | omega | (simp <;> omega))), (by omega), (bkF3 kG21), (belF3 H21 (by first | omega | (simp <;> omega)))⟩ | exact ⟨_, _, _, rfl, rfl, (by first | omega | (simp <;> omega)), (((o21_0_0).alloc _).mono (by first | omega | (simp <;> omega)) (by first | omega | (simp <;> omega))), (by omega), (Bk.new _ _ _), (H21.alloc (by first | omega | (simp <;> omega)) _)⟩
        case rest =>
          obtain ⟨G21, A21_0_0, c21_0_0, rfl, rfl, hG21, o21_0_0, l21_0, kG21, hb21⟩ := hcut
          obtain ⟨w21, rfl⟩ : ∃ w21, w21 = wc := ⟨_, rfl⟩
          have xG21 := kG21.lt
          have s21 : w18.heap.size ≤ w21.heap.size := hb21.size
          have B21 : Below w.heap.size w w21 := (B18).trans (hb21.mono (by first | omega | (simp <;> omega)))
          have k1_0v21 := (k1_0v18).st hb21
          have k1_1v21 := (k1_1v18).st hb21
          have o5_0_0v21 := (o5_0_0v18).st hb21
          have kG5v21 := (kG5v18).st hb21
          have f17_0v21 := (f17_0v18).st hb21
          have k9_0v21 := (k9_0v18).st hb21
          clear k1_0v18 k1_1v18 o5_0_0v18 kG5v18 f17_0v18 k9_0v18 xk1_0v18 ck1_0v18_0 ck1_0v18_1 ck1_0v18_2 xk1_1v18 ck1_1v18_0 ck1_1v18_1 ck1_1v18_2
          have xkG21 := kG21.lt
          have ckG21_0 := kG21.cell 0
          simp at ckG21_0
          have ckG21_1 := kG21.cell 1
          simp at ckG21_1
          have ckG21_2 := kG21.cell 2
          simp at ckG21_2
          have xkG5v21 := kG5v21.lt
          have ckG5v21_0 := kG5v21.cell 0
          simp at ckG5v21_0
          have ckG5v21_1 := kG5v21.cell 1
          simp at ckG5v21_1
          have ckG5v21_2 := kG5v21.cell 2
          simp at ckG5v21_2
          go_wp2_with fail
          ((with_reducible refine (eqKeyBook_b (mbK a0_0 a0_1 a0_2 a1_0 a1_1 a1_2) (mbG a0_0 a0_1 a0_2 a1_0 a1_1 a1_2) (mbL a0_0 a0_1 a0_2 a1_0 a1_1 a1_2) A21_0_0 c21_0_0 (mbK a0_0 a0_1 a0_2 a1_0 a1_1 a1_2) (mbG a0_0 a0_1 a0_2 a1_0 a1_1 a1_2) (mbL a0_0 a0_1 a0_2 a1_0 a1_1 a1_2) A5_0_0 c5_0_0 _ ((o21_0_0).rd') o5_0_0v21 (by omega) (by omega)).mono ?_); rintro e w22 ⟨rfl, hb22⟩)
          have s22 : w21.heap.size ≤ w22.heap.size := by have := hb22.size; simpa using this
          have B22 : Below w.heap.size w w22 := (B21).trans (hb22.mono (by first | omega | (simp <;> omega)))
          have k1_0v22 := (k1_0v21).st hb22
          have k1_1v22 := (k1_1v21).st hb22
          have o5_0_0v22 := (o5_0_0v21).st hb22
          have kG5v22 := (kG5v21).st hb22
          have f17_0v22 := (f17_0v21).st hb22
          have k9_0v22 := (k9_0v21).st hb22
          have o21_0_0v22 := (o21_0_0).st hb22
          have kG21v22 := (kG21).st hb22
          clear k1_0v21 k1_1v21 o5_0_0v21 kG5v21 f17_0v21 k9_0v21 o21_0_0 kG21 xkG21 ckG21_0 ckG21_1 ckG21_2 xkG5v21 ckG5v21_0 ckG5v21_1 ckG5v21_2
          have xk9_0v22 := k9_0v22.lt
          have ck9_0v22_0 := k9_0v22.cell 0
          simp at ck9_0v22_0
          have ck9_0v22_1 := k9_0v22.cell 1
          simp at ck9_0v22_1
          have ck9_0v22_2 := k9_0v22.cell 2
          simp at ck9_0v22_2
          go_wp2_with fail
          ((with_reducible refine (heldKeyBook_b (mbK a0_0 a0_1 a0_2 a1_0 a1_1 a1_2) (mbG a0_0 a0_1 a0_2 a1_0 a1_1 a1_2) (mbL a0_0 a0_1 a0_2 a1_0 a1_1 a1_2) A8_0_0 c8_0_0 1 _ ((f17_0v22).rd') (by omega) (by omega)).mono ?_); rintro e w23 ⟨rfl, hb23⟩)
          have s23 : w22.heap.size ≤ w23.heap.size := by have := hb23.size; simpa using this
          have B23 : Below w.heap.size w w23 := (B22).trans (hb23.mono (by first | omega | (simp <;> omega)))
          have k1_0v23 := (k1_0v22).st hb23
          have k1_1v23 := (k1_1v22).st hb23
          have o5_0_0v23 := (o5_0_0v22).st hb23
          have kG5v23 := (kG5v22).st hb23
          have f17_0v23 := (f17_0v22).st hb23
          have k9_0v23 := (k9_0v22).st hb23
          have o21_0_0v23 := (o21_0_0v22).st hb23
          have kG21v23 := (kG21v22).st hb23
          clear k1_0v22 k1_1v22 o5_0_0v22 kG5v22 f17_0v22 k9_0v22 o21_0_0v22 kG21v22 xk9_0v22 ck9_0v22_0 ck9_0v22_1 ck9_0v22_2
          go_wp2_with fail
          go_ret
          exact ⟨rfl, B23⟩
    · go_enter Try.func6, Try.ntmps6
      go_wp2_with fail
      ((with_reducible refine (szKeyBook_yes a0_0 a0_1 a0_2 Aa0_2 ca0_2 1048576 _ (by omega) l0_0 (by omega)).mono ?_); rintro e w1 ⟨rfl, hb1⟩)
      have s1 : w.heap.size + 2 ≤ w1.heap.size := by have := hb1.size; simpa using this
      have B1 : Below w.heap.size w w1 := ((((Below.refl w.heap.size w)).alloc (by first | omega | (simp <;> omega)) _).alloc (by first | omega | (simp <;> omega)) _).trans (hb1.mono (by first | omega | (simp <;> omega)))
      have k1_0 := ((Bk.new w _ _).alloc _).st hb1
      have k1_1 := (Bk.new2 w _ _ _).st hb1
      have xk1_1 := k1_1.lt
      have ck1_1_0 := k1_1.cell 0
      simp at ck1_1_0
      have ck1_1_1 := k1_1.cell 1
      simp at ck1_1_1
      have ck1_1_2 := k1_1.cell 2
      simp at ck1_1_2
      go_wp2_with fail
      ((with_reducible refine (szKeyBook_no a1_0 a1_1 a1_2 Aa1_2 ca1_2 (1048576 - ((a0_2.length : Nat) : Int)) _ (by omega) l1_0 (by omega)).mono ?_); rintro e w2 ⟨rfl, hb2⟩)
      have s2 : w1.heap.size ≤ w2.heap.size := by have := hb2.size; simpa using this
      have B2 : Below w.heap.size w w2 := (B1).trans (hb2.mono (by first | omega | (simp <;> omega)))
      have k1_0v2 := (k1_0).st hb2
      have k1_1v2 := (k1_1).st hb2
      clear k1_0 k1_1 xk1_1 ck1_1_0 ck1_1_1 ck1_1_2
      go_wp2_with fail
      go_ret
      exact ⟨rfl, B2⟩
  · go_enter Try.func6, Try.ntmps6
    go_wp2_with fail
    ((with_reducible refine (szKeyBook_no a0_0 a0_1 a0_2 Aa0_2 ca0_2 1048576 _ (by omega) l0_0 (by omega)).mono ?_); rintro e w1 ⟨rfl, hb1⟩)
    have s1 : w.heap.size + 2 ≤ w1.heap.size := by have := hb1.size; simpa using this
    have B1 : Below w.heap.size w w1 := ((((Below.refl w.heap.size w)).alloc (by first | omega | (simp <;> omega)) _).alloc (by first | omega | (simp <;> omega)) _).trans (hb1.mono (by first | omega | (simp <;> omega)))
    have k1_0 := ((Bk.new w _ _).alloc _).st hb1
    have k1_1 := (Bk.new2 w _ _ _).st hb1
    go_wp2_with fail
    go_ret
    exact ⟨rfl, B1⟩

end Go.Proofs.Ytdonggpcabkmlaa.fnExactMergeKeyBooks
