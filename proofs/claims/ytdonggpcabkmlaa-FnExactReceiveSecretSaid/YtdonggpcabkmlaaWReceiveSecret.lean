/-
  The walk through FnExactReceiveSecret, call by call. Printed by a program of this claim's own. No conditions beyond the bounds of Go's slices.
-/
import Derived.Test.YtdonggpcabkmlaaLawKit
import Derived.Test.YtdonggpcabkmlaaCutK
import Derived.Test.YtdonggpcabkmlaaRecv
import Derived.Test.YtdonggpcabkmlaaMarkS
namespace Go.Proofs.Ytdonggpcabkmlaa.fnExactReceiveSecret
open Go.ChangeShapes Go.WideShapes Go.ChangeAt Go.RowKit
set_option linter.unusedVariables false

set_option maxRecDepth 100000 in
set_option maxHeartbeats 4000000 in
theorem walk (a0_0 : Int) (a0_1 : Int) (a0_2 : List Int) (Aa0_2 : Option Addr) (ca0_2 : Nat) (a1_0 : List Int) (Aa1_0 : Option Addr) (ca1_0 : Nat) (a1_1 : List Int) (Aa1_1 : Option Addr) (ca1_1 : Nat) (w : World) (h0_0 : Rd w 0 w.heap.size Aa0_2 a0_2) (l0_0 : a0_2.length ≤ 9223372036854775807) (h1_0 : Rd w 0 w.heap.size Aa1_0 a1_0) (l1_0 : a1_0.length ≤ 9223372036854775807) (h1_1 : Rd w 0 w.heap.size Aa1_1 a1_1) (l1_1 : a1_1.length ≤ 9223372036854775807) :
    Calls Try.prog 11 #[.agg #[.int .i64 a0_0, .int .i64 a0_1, .slice Aa0_2 a0_2.length ca0_2], .agg #[.slice Aa1_0 a1_0.length ca1_0, .slice Aa1_1 a1_1.length ca1_1]] w fun e w' => e = .returned (.bool true) ∧ Below w.heap.size w w' := by
  by_cases z0 : a0_2.length ≤ 1048576
  · skip
    by_cases z1 : a0_2.length + a1_0.length + a1_1.length ≤ 1048576
    · skip
      go_enter Try.func11, Try.ntmps11
      go_wp2_with fail
      ((with_reducible refine (szKeyBook_yes a0_0 a0_1 a0_2 Aa0_2 ca0_2 1048576 _ (by omega) l0_0 (by omega)).mono ?_); rintro e w1 ⟨rfl, hb1⟩)
      have s1 : w.heap.size + 2 ≤ w1.heap.size := by have := hb1.size; simpa using this
      have B1 : Below w.heap.size w w1 := ((((Below.refl w.heap.size w)).alloc (by first | omega | (simp <;> omega)) _).alloc (by first | omega | (simp <;> omega)) _).trans (hb1.mono (by first | omega | (simp <;> omega)))
      have k1_0 := ((Bk.new w _ _).alloc _).st hb1
      have k1_1 := (Bk.new2 w _ _ _).st hb1
      have xk1_1 := k1_1.lt
      have ck1_1_0 := k1_1.cell 0
      simp at ck1_1_0
      have ck1_1_1 := k1_1.cell 1
      simp at ck1_1_1
      go_wp2_with fail
      ((with_reducible refine (szSecret_yes a1_0 Aa1_0 ca1_0 a1_1 Aa1_1 ca1_1 (1048576 - ((a0_2.length : Nat) : Int)) _ (by omega) l1_0 l1_1 (by omega)).mono ?_); rintro e w2 ⟨rfl, hb2⟩)
      have s2 : w1.heap.size ≤ w2.heap.size := by have := hb2.size; simpa using this
      have B2 : Below w.heap.size w w2 := (B1).trans (hb2.mono (by first | omega | (simp <;> omega)))
      have k1_0v2 := (k1_0).st hb2
      have k1_1v2 := (k1_1).st hb2
      clear k1_0 k1_1 xk1_1 ck1_1_0 ck1_1_1
      have xk1_0v2 := k1_0v2.lt
      have ck1_0v2_0 := k1_0v2.cell 0
      simp at ck1_0v2_0
      have ck1_0v2_1 := k1_0v2.cell 1
      simp at ck1_0v2_1
      have ck1_0v2_2 := k1_0v2.cell 2
      simp at ck1_0v2_2
      have xk1_1v2 := k1_1v2.lt
      have ck1_1v2_0 := k1_1v2.cell 0
      simp at ck1_1v2_0
      have ck1_1v2_1 := k1_1v2.cell 1
      simp at ck1_1v2_1
      go_upto_region 8 with fail
      go_cut [6, 7, 8] from 20 (fun s6_ s7_ s8_ wq => ∃ (G : Nat) (A5_0_0 : Option Addr) (c5_0_0 : Nat) (A5_1_0 : Option Addr) (c5_1_0 : Nat) , s6_ = .pointer (some ⟨G, 0, none⟩) ∧ s7_ = .slice A5_1_0 (rsS a0_0 a0_1 a0_2 a1_0 a1_1).length c5_1_0 ∧ s8_ = .bool (rsB a0_0 a0_1 a0_2 a1_0 a1_1) ∧ w2.heap.size ≤ G ∧ Rd wq w2.heap.size wq.heap.size A5_0_0 (rsL a0_0 a0_1 a0_2 a1_0 a1_1) ∧ Rd wq w2.heap.size wq.heap.size A5_1_0 (rsS a0_0 a0_1 a0_2 a1_0 a1_1) ∧ (rsL a0_0 a0_1 a0_2 a1_0 a1_1).length ≤ 1048576 ∧ (rsS a0_0 a0_1 a0_2 a1_0 a1_1).length ≤ 1048576 ∧ Bk wq G 26 #[.int .i64 (rsK a0_0 a0_1 a0_2 a1_0 a1_1), .int .i64 (rsG a0_0 a0_1 a0_2 a1_0 a1_1), .slice A5_0_0 (rsL a0_0 a0_1 a0_2 a1_0 a1_1).length c5_0_0] ∧ Below w2.heap.size w2 wq)
      case first =>
        go_wp2_with fail
        go_region_held3 (fun w' => w'.cell? ⟨w.heap.size, 0, none⟩ = some (.int .i64 a0_0) ∧ w'.cell? ⟨w.heap.size, 1, none⟩ = some (.int .i64 a0_1) ∧ w'.cell? ⟨w.heap.size, 2, none⟩ = some (.slice Aa0_2 a0_2.length ca0_2) ∧ w'.cell? ⟨w.heap.size + 1, 0, none⟩ = some (.slice Aa1_0 a1_0.length ca1_0) ∧ w'.cell? ⟨w.heap.size + 1, 1, none⟩ = some (.slice Aa1_1 a1_1.length ca1_1)) (((try go_split_ands); (try dsimp only); (repeat' apply And.intro) <;> (first | with_reducible assumption | with_reducible exact cellF3 (by omega) (by with_reducible assumption) | ((with_reducible refine cell_realloc ?_ (by with_reducible assumption)) <;> first | (dsimp only; omega) | omega) | ((with_reducible refine (World.cell?_alloc_lt _ _ _ ?_).trans ?_) <;> first | with_reducible assumption | omega | (simp <;> omega)) | ((with_reducible refine (hc5 _ _ ?_).trans ?_) <;> first | with_reducible assumption | omega | (simp <;> omega)) | ((with_reducible refine (hc4 _ _ ?_).trans ?_) <;> first | with_reducible assumption | omega | (simp <;> omega)) | ((with_reducible refine (hc3 _ _ ?_).trans ?_) <;> first | with_reducible assumption | omega | (simp <;> omega)) | go_keep)))
          (first
            | (go_at_call 14; ((with_reducible refine (toKeyBook_any a0_0 a0_1 a0_2 Aa0_2 ca0_2 _ (((h0_0.below B2 (Nat.le_refl _))).drew) (by omega)).mono ?_); rintro e w3 ⟨A3_0, c3_0, rfl, o3_0, hb3⟩; (have s3 : w2.heap.size ≤ w3.heap.size := by have := hb3.size; simpa using this); (have B3 : Below w.heap.size w w3 := ((B2).drew).trans (hb3.mono (by first | omega | (simp <;> omega)))); (have k1_0v3 := ((k1_0v2).drew).st hb3); (have k1_1v3 := ((k1_1v2).drew).st hb3); (have H3 : Below w2.heap.size w2 w3 := ((((Below.refl w2.heap.size w2))).drew).trans (hb3.mono (by first | omega | (simp <;> omega)))); (have hc3 := (bcell hb3).1); (try (have kG3 := kG2.st hb3))))
            | (go_at_call 14; ((with_reducible refine (toKeyBook_any a0_0 a0_1 a0_2 Aa0_2 ca0_2 _ ((((h0_0.below B2 (Nat.le_refl _))).alloc _).drew) (by omega)).mono ?_); rintro e w3 ⟨A3_0, c3_0, rfl, o3_0, hb3⟩; (have s3 : w2.heap.size + 1 ≤ w3.heap.size := by have := hb3.size; simpa using this); (have B3 : Below w.heap.size w w3 := (((B2).alloc (by first | omega | (simp <;> omega)) _).drew).trans (hb3.mono (by first | omega | (simp <;> omega)))); (have k1_0v3 := (((k1_0v2).alloc _).drew).st hb3); (have k1_1v3 := (((k1_1v2).alloc _).drew).st hb3); (have H3 : Below w2.heap.size w2 w3 := (((((Below.refl w2.heap.size w2))).alloc (by first | omega | (simp <;> omega)) _).drew).trans (hb3.mono (by first | omega | (simp <;> omega)))); (have hc3 := (bcell hb3).1); (have kG3 := ((Bk.new w2 26 #[.int .i64 0, .int .i64 0, .slice none 0 0]).drew).st hb3)))
            | (go_at_call 23; ((with_reducible refine (toSecret_any a1_0 Aa1_0 ca1_0 a1_1 Aa1_1 ca1_1 _ ((h1_0.below B3 (Nat.le_refl _))) ((h1_1.below B3 (Nat.le_refl _))) (by omega) (by omega)).mono ?_); rintro e w4 ⟨A4_0, c4_0, A4_1, c4_1, rfl, o4_0, o4_1, d4, hb4⟩; (have s4 : w3.heap.size ≤ w4.heap.size := by have := hb4.size; simpa using this); (have B4 : Below w.heap.size w w4 := (B3).trans (hb4.mono (by first | omega | (simp <;> omega)))); (have k1_0v4 := (k1_0v3).st hb4); (have k1_1v4 := (k1_1v3).st hb4); (have o3_0v4 := (o3_0).st hb4); (have H4 : Below w2.heap.size w2 w4 := ((H3)).trans (hb4.mono (by first | omega | (simp <;> omega)))); (have hc4 := (bcell hb4).1); (try (have kG4 := kG3.st hb4))))
            | (go_at_call 23; ((with_reducible refine (toSecret_any a1_0 Aa1_0 ca1_0 a1_1 Aa1_1 ca1_1 _ (((h1_0.below B3 (Nat.le_refl _))).alloc _) (((h1_1.below B3 (Nat.le_refl _))).alloc _) (by omega) (by omega)).mono ?_); rintro e w4 ⟨A4_0, c4_0, A4_1, c4_1, rfl, o4_0, o4_1, d4, hb4⟩; (have s4 : w3.heap.size + 1 ≤ w4.heap.size := by have := hb4.size; simpa using this); (have B4 : Below w.heap.size w w4 := ((B3).alloc (by first | omega | (simp <;> omega)) _).trans (hb4.mono (by first | omega | (simp <;> omega)))); (have k1_0v4 := ((k1_0v3).alloc _).st hb4); (have k1_1v4 := ((k1_1v3).alloc _).st hb4); (have o3_0v4 := ((o3_0).alloc _).st hb4); (have H4 : Below w2.heap.size w2 w4 := (((H3)).alloc (by first | omega | (simp <;> omega)) _).trans (hb4.mono (by first | omega | (simp <;> omega)))); (have hc4 := (bcell hb4).1); (have kG4 := ((Bk.new w3 26 #[.int .i64 0, .int .i64 0, .slice none 0 0])).st hb4)))
            | (go_at_call 46; ((with_reducible refine (sReceiveSecret_any a0_0 a0_1 a0_2 A3_0 c3_0 a1_0 A4_0 c4_0 a1_1 A4_1 c4_1 _ ((o3_0v4).rd') ((o4_0).rd') ((o4_1).rd') (by omega) (by omega) (by omega) (o4_0).len.2 (o4_1).len.2).mono ?_); rintro e w5 ⟨A5_0_0, c5_0_0, A5_1_0, c5_1_0, rfl, o5_0_0, o5_1_0, l5_0, l5_1, hb5⟩; (have s5 : w4.heap.size ≤ w5.heap.size := by have := hb5.size; simpa using this); (have B5 : Below w.heap.size w w5 := (B4).trans (hb5.mono (by first | omega | (simp <;> omega)))); (have k1_0v5 := (k1_0v4).st hb5); (have k1_1v5 := (k1_1v4).st hb5); (have o3_0v5 := (o3_0v4).st hb5); (have o4_0v5 := (o4_0).st hb5); (have o4_1v5 := (o4_1).st hb5); (have H5 : Below w2.heap.size w2 w5 := ((H4)).trans (hb5.mono (by first | omega | (simp <;> omega)))); (have hc5 := (bcell hb5).1); (try (have kG5 := kG4.st hb5)); (try (have g0 : _ = some (Value.int .i64 0) := kG5.cell 0)); (try (have g1 : _ = some (Value.int .i64 0) := kG5.cell 1)); (try (have g2 : _ = some (Value.slice none 0 0) := kG5.cell 2)); (try (have gf0 := kG5.frozen 0)); (try (have gf1 := kG5.frozen 1)); (try (have gf2 := kG5.frozen 2)); (try (have gl := kG5.lt))))
            | (go_at_call 46; ((with_reducible refine (sReceiveSecret_any a0_0 a0_1 a0_2 A3_0 c3_0 a1_0 A4_0 c4_0 a1_1 A4_1 c4_1 _ (((o3_0v4).alloc _).rd') (((o4_0).alloc _).rd') (((o4_1).alloc _).rd') (by omega) (by omega) (by omega) (o4_0).len.2 (o4_1).len.2).mono ?_); rintro e w5 ⟨A5_0_0, c5_0_0, A5_1_0, c5_1_0, rfl, o5_0_0, o5_1_0, l5_0, l5_1, hb5⟩; (have s5 : w4.heap.size + 1 ≤ w5.heap.size := by have := hb5.size; simpa using this); (have B5 : Below w.heap.size w w5 := ((B4).alloc (by first | omega | (simp <;> omega)) _).trans (hb5.mono (by first | omega | (simp <;> omega)))); (have k1_0v5 := ((k1_0v4).alloc _).st hb5); (have k1_1v5 := ((k1_1v4).alloc _).st hb5); (have o3_0v5 := ((o3_0v4).alloc _).st hb5); (have o4_0v5 := ((o4_0).alloc _).st hb5); (have o4_1v5 := ((o4_1).alloc _).st hb5); (have H5 : Below w2.heap.size w2 w5 := (((H4)).alloc (by first | omega | (simp <;> omega)) _).trans (hb5.mono (by first | omega | (simp <;> omega)))); (have hc5 := (bcell hb5).1); (have kG5 := ((Bk.new w4 26 #[.int .i64 0, .int .i64 0, .slice none 0 0])).st hb5); (try (have g0 : _ = some (Value.int .i64 0) := kG5.cell 0)); (try (have g1 : _ = some (Value.int .i64 0) := kG5.cell 1)); (try (have g2 : _ = some (Value.slice none 0 0) := kG5.cell 2)); (try (have gf0 := kG5.frozen 0)); (try (have gf1 := kG5.frozen 1)); (try (have gf2 := kG5.frozen 2)); (try (have gl := kG5.lt)))))
        all_goals
          clear xk1_0v2 ck1_0v2_0 ck1_0v2_1 ck1_0v2_2 xk1_1v2 ck1_1v2_0 ck1_1v2_1
          go_wp2_with fail
          go_meet
          case rel => first | exact ⟨_, _, _, _, _, rfl, rfl, rfl, (by first | omega | (simp <;> omega)), ((rdF3 o5_0_0 (by first | omega | (simp <;> omega))).mono (by first | omega | (simp <;> omega)) (by first | omega | (simp <;> omega))), ((rdF3 o5_1_0 (by first | omega | (simp <;> omega))).mono (by first | omega | (simp <;> omega)) (by first | omega | (simp <;> omega))), (by omega), (by omega), (bkF3 kG5), (belF3 H5 (by first | omega | (simp <;> omega)))⟩ | exact ⟨_, _, _, _, _, rfl, rfl, rfl, (by first | omega | (simp <;> omega)), (((o5_0_0).alloc _).mono (by first | omega | (simp <;> omega)) (by first | omega | (simp <;> omega))), (((o5_1_0).alloc _).mono (by first | omega | (simp <;> omega)) (by first | omega | (simp <;> omega))), (by omega), (by omega), (Bk.new _ _ _), (H5.alloc (by first | omega | (simp <;> omega)) _)⟩
      case rest =>
        obtain ⟨G5, A5_0_0, c5_0_0, A5_1_0, c5_1_0, rfl, rfl, rfl, hG5, o5_0_0, o5_1_0, l5_0, l5_1, kG5, hb5⟩ := hcut
        obtain ⟨w5, rfl⟩ : ∃ w5, w5 = wc := ⟨_, rfl⟩
        have xG5 := kG5.lt
        have s5 : w2.heap.size ≤ w5.heap.size := hb5.size
        have B5 : Below w.heap.size w w5 := (B2).trans (hb5.mono (by first | omega | (simp <;> omega)))
        have k1_0v5 := (k1_0v2).st hb5
        have k1_1v5 := (k1_1v2).st hb5
        clear k1_0v2 k1_1v2 xk1_0v2 ck1_0v2_0 ck1_0v2_1 ck1_0v2_2 xk1_1v2 ck1_1v2_0 ck1_1v2_1
        have xk1_0v5 := k1_0v5.lt
        have ck1_0v5_0 := k1_0v5.cell 0
        simp at ck1_0v5_0
        have ck1_0v5_1 := k1_0v5.cell 1
        simp at ck1_0v5_1
        have ck1_0v5_2 := k1_0v5.cell 2
        simp at ck1_0v5_2
        go_wp2_with fail
        ((with_reducible refine (toKeyBook_any a0_0 a0_1 a0_2 Aa0_2 ca0_2 _ ((h0_0.below B5 (Nat.le_refl _))) (by omega)).mono ?_); rintro e w6 ⟨A6_0, c6_0, rfl, o6_0, hb6⟩)
        have s6 : w5.heap.size ≤ w6.heap.size := by have := hb6.size; simpa using this
        have B6 : Below w.heap.size w w6 := (B5).trans (hb6.mono (by first | omega | (simp <;> omega)))
        have k1_0v6 := (k1_0v5).st hb6
        have k1_1v6 := (k1_1v5).st hb6
        have o5_0_0v6 := (o5_0_0).st hb6
        have kG5v6 := (kG5).st hb6
        have o5_1_0v6 := (o5_1_0).st hb6
        clear k1_0v5 k1_1v5 o5_0_0 kG5 o5_1_0 xk1_0v5 ck1_0v5_0 ck1_0v5_1 ck1_0v5_2
        have xk1_1v6 := k1_1v6.lt
        have ck1_1v6_0 := k1_1v6.cell 0
        simp at ck1_1v6_0
        have ck1_1v6_1 := k1_1v6.cell 1
        simp at ck1_1v6_1
        go_wp2_with fail
        ((with_reducible refine (toSecret_any a1_0 Aa1_0 ca1_0 a1_1 Aa1_1 ca1_1 _ (((h1_0.below B6 (Nat.le_refl _))).alloc _) (((h1_1.below B6 (Nat.le_refl _))).alloc _) (by omega) (by omega)).mono ?_); rintro e w7 ⟨A7_0, c7_0, A7_1, c7_1, rfl, o7_0, o7_1, d7, hb7⟩)
        have s7 : w6.heap.size + 1 ≤ w7.heap.size := by have := hb7.size; simpa using this
        have B7 : Below w.heap.size w w7 := ((B6).alloc (by first | omega | (simp <;> omega)) _).trans (hb7.mono (by first | omega | (simp <;> omega)))
        have k1_0v7 := ((k1_0v6).alloc _).st hb7
        have k1_1v7 := ((k1_1v6).alloc _).st hb7
        have o5_0_0v7 := ((o5_0_0v6).alloc _).st hb7
        have kG5v7 := ((kG5v6).alloc _).st hb7
        have o5_1_0v7 := ((o5_1_0v6).alloc _).st hb7
        have o6_0v7 := ((o6_0).alloc _).st hb7
        have k7_0 := (Bk.new w6 _ _).st hb7
        clear k1_0v6 k1_1v6 o5_0_0v6 kG5v6 o5_1_0v6 o6_0 xk1_1v6 ck1_1v6_0 ck1_1v6_1
        have xk7_0 := k7_0.lt
        have ck7_0_0 := k7_0.cell 0
        simp at ck7_0_0
        have ck7_0_1 := k7_0.cell 1
        simp at ck7_0_1
        have ck7_0_2 := k7_0.cell 2
        simp at ck7_0_2
        go_wp2_with fail
        ((with_reducible refine (iReceiveSecret_any a0_0 a0_1 a0_2 A6_0 c6_0 a1_0 A7_0 c7_0 a1_1 A7_1 c7_1 _ (((o6_0v7).alloc _).rd') (((o7_0).alloc _).rd') (((o7_1).alloc _).rd') (by omega) (by omega) (by omega) ).mono ?_); rintro e w8 ⟨A8_0_0, c8_0_0, A8_1_0, c8_1_0, il8_0, ir8_0, il8_1, ir8_1, rfl, o8_0_0, o8_1_0, ⟨ib8_0, ib8_1, ib8_2, ib8_3, ib8_4⟩, l8_0, l8_1, hb8⟩)
        have s8 : w7.heap.size + 1 ≤ w8.heap.size := by have := hb8.size; simpa using this
        have B8 : Below w.heap.size w w8 := ((B7).alloc (by first | omega | (simp <;> omega)) _).trans (hb8.mono (by first | omega | (simp <;> omega)))
        have k1_0v8 := ((k1_0v7).alloc _).st hb8
        have k1_1v8 := ((k1_1v7).alloc _).st hb8
        have o5_0_0v8 := ((o5_0_0v7).alloc _).st hb8
        have kG5v8 := ((kG5v7).alloc _).st hb8
        have o5_1_0v8 := ((o5_1_0v7).alloc _).st hb8
        have o6_0v8 := ((o6_0v7).alloc _).st hb8
        have k7_0v8 := ((k7_0).alloc _).st hb8
        have o7_0v8 := ((o7_0).alloc _).st hb8
        have o7_1v8 := ((o7_1).alloc _).st hb8
        have k8_0 := (Bk.new w7 _ _).st hb8
        clear k1_0v7 k1_1v7 o5_0_0v7 kG5v7 o5_1_0v7 o6_0v7 k7_0 o7_0 o7_1 xk7_0 ck7_0_0 ck7_0_1 ck7_0_2
        have jb8_0 : w7.heap.size + 1 ≤ il8_0 := by simpa using ib8_0
        have jb8_1 : w7.heap.size + 1 ≤ il8_1 := by simpa using ib8_2
        have hq0 := eqKb_self (rsK a0_0 a0_1 a0_2 a1_0 a1_1) (rsG a0_0 a0_1 a0_2 a1_0 a1_1) (rsL a0_0 a0_1 a0_2 a1_0 a1_1)
        have hq1 := eqL_self (rsS a0_0 a0_1 a0_2 a1_0 a1_1)
        have xkG5v8 := kG5v8.lt
        have ckG5v8_0 := kG5v8.cell 0
        simp at ckG5v8_0
        have ckG5v8_1 := kG5v8.cell 1
        simp at ckG5v8_1
        have ckG5v8_2 := kG5v8.cell 2
        simp at ckG5v8_2
        go_wp2_with fail
        ((with_reducible refine (eqKeyBook_b (rsK a0_0 a0_1 a0_2 a1_0 a1_1) (rsG a0_0 a0_1 a0_2 a1_0 a1_1) (rsL a0_0 a0_1 a0_2 a1_0 a1_1) A8_0_0 c8_0_0 (rsK a0_0 a0_1 a0_2 a1_0 a1_1) (rsG a0_0 a0_1 a0_2 a1_0 a1_1) (rsL a0_0 a0_1 a0_2 a1_0 a1_1) A5_0_0 c5_0_0 _ (((o8_0_0).alloc _).rd') ((o5_0_0v8).alloc _) (by omega) (by omega)).mono ?_); rintro e w9 ⟨rfl, hb9⟩)
        have s9 : w8.heap.size + 1 ≤ w9.heap.size := by have := hb9.size; simpa using this
        have B9 : Below w.heap.size w w9 := ((B8).alloc (by first | omega | (simp <;> omega)) _).trans (hb9.mono (by first | omega | (simp <;> omega)))
        have k1_0v9 := ((k1_0v8).alloc _).st hb9
        have k1_1v9 := ((k1_1v8).alloc _).st hb9
        have o5_0_0v9 := ((o5_0_0v8).alloc _).st hb9
        have kG5v9 := ((kG5v8).alloc _).st hb9
        have o5_1_0v9 := ((o5_1_0v8).alloc _).st hb9
        have o6_0v9 := ((o6_0v8).alloc _).st hb9
        have k7_0v9 := ((k7_0v8).alloc _).st hb9
        have o7_0v9 := ((o7_0v8).alloc _).st hb9
        have o7_1v9 := ((o7_1v8).alloc _).st hb9
        have k8_0v9 := ((k8_0).alloc _).st hb9
        have o8_0_0v9 := ((o8_0_0).alloc _).st hb9
        have k9_0 := (Bk.new w8 _ _).st hb9
        have o8_1_0v9 := ((o8_1_0).alloc _).st hb9
        clear k1_0v8 k1_1v8 o5_0_0v8 kG5v8 o5_1_0v8 o6_0v8 k7_0v8 o7_0v8 o7_1v8 k8_0 o8_0_0 o8_1_0 xkG5v8 ckG5v8_0 ckG5v8_1 ckG5v8_2
        have xk9_0 := k9_0.lt
        have ck9_0_0 := k9_0.cell 0
        simp at ck9_0_0
        have ck9_0_1 := k9_0.cell 1
        simp at ck9_0_1
        have ck9_0_2 := k9_0.cell 2
        simp at ck9_0_2
        have xkG5v9 := kG5v9.lt
        have ckG5v9_0 := kG5v9.cell 0
        simp at ckG5v9_0
        have ckG5v9_1 := kG5v9.cell 1
        simp at ckG5v9_1
        have ckG5v9_2 := kG5v9.cell 2
        simp at ckG5v9_2
        go_wp2_with fail
        ((with_reducible refine (eqIntS_b (rsS a0_0 a0_1 a0_2 a1_0 a1_1) A8_1_0 c8_1_0 (rsS a0_0 a0_1 a0_2 a1_0 a1_1) A5_1_0 c5_1_0 _ ((o8_1_0v9).rd') o5_1_0v9 (by omega) (by omega)).mono ?_); rintro e w10 ⟨rfl, hb10⟩)
        have s10 : w9.heap.size ≤ w10.heap.size := by have := hb10.size; simpa using this
        have B10 : Below w.heap.size w w10 := (B9).trans (hb10.mono (by first | omega | (simp <;> omega)))
        have k1_0v10 := (k1_0v9).st hb10
        have k1_1v10 := (k1_1v9).st hb10
        have o5_0_0v10 := (o5_0_0v9).st hb10
        have kG5v10 := (kG5v9).st hb10
        have o5_1_0v10 := (o5_1_0v9).st hb10
        have o6_0v10 := (o6_0v9).st hb10
        have k7_0v10 := (k7_0v9).st hb10
        have o7_0v10 := (o7_0v9).st hb10
        have o7_1v10 := (o7_1v9).st hb10
        have k8_0v10 := (k8_0v9).st hb10
        have o8_0_0v10 := (o8_0_0v9).st hb10
        have k9_0v10 := (k9_0).st hb10
        have o8_1_0v10 := (o8_1_0v9).st hb10
        clear k1_0v9 k1_1v9 o5_0_0v9 kG5v9 o5_1_0v9 o6_0v9 k7_0v9 o7_0v9 o7_1v9 k8_0v9 o8_0_0v9 k9_0 o8_1_0v9 xk9_0 ck9_0_0 ck9_0_1 ck9_0_2 xkG5v9 ckG5v9_0 ckG5v9_1 ckG5v9_2
        have hq2 := eqKb_self a0_0 a0_1 a0_2
        have xk7_0v10 := k7_0v10.lt
        have ck7_0v10_0 := k7_0v10.cell 0
        simp at ck7_0v10_0
        have ck7_0v10_1 := k7_0v10.cell 1
        simp at ck7_0v10_1
        have ck7_0v10_2 := k7_0v10.cell 2
        simp at ck7_0v10_2
        have xk1_0v10 := k1_0v10.lt
        have ck1_0v10_0 := k1_0v10.cell 0
        simp at ck1_0v10_0
        have ck1_0v10_1 := k1_0v10.cell 1
        simp at ck1_0v10_1
        have ck1_0v10_2 := k1_0v10.cell 2
        simp at ck1_0v10_2
        go_wp2_with fail
        go_region_held3 (fun w' => w'.cell? ⟨w6.heap.size, 0, none⟩ = some (.int .i64 a0_0) ∧ w'.cell? ⟨w6.heap.size, 1, none⟩ = some (.int .i64 a0_1) ∧ w'.cell? ⟨w6.heap.size, 2, none⟩ = some (.slice A6_0 a0_2.length c6_0) ∧ w'.cell? ⟨w.heap.size, 0, none⟩ = some (.int .i64 a0_0) ∧ w'.cell? ⟨w.heap.size, 1, none⟩ = some (.int .i64 a0_1) ∧ w'.cell? ⟨w.heap.size, 2, none⟩ = some (.slice Aa0_2 a0_2.length ca0_2)) (first | go_keep | ((try go_split_ands); (try dsimp only); (repeat' apply And.intro) <;> (first | go_keep | ((refine (hc12 _ _ ?_).trans ?_) <;> first | assumption | omega | (simp <;> omega)) | ((refine (hc11 _ _ ?_).trans ?_) <;> first | assumption | omega | (simp <;> omega)) | ((with_reducible refine cell_realloc ?_ (by with_reducible assumption)) <;> first | (dsimp only; omega) | omega))))
          (first
            | (go_at_call 14; ((with_reducible refine (toKeyBook_any a0_0 a0_1 a0_2 Aa0_2 ca0_2 _ (((h0_0.below B10 (Nat.le_refl _))).drew) (by omega)).mono ?_); rintro e w11 ⟨A11_0, c11_0, rfl, o11_0, hb11⟩; (have s11 : w10.heap.size ≤ w11.heap.size := by have := hb11.size; simpa using this); (have B11 : Below w.heap.size w w11 := ((B10).drew).trans (hb11.mono (by first | omega | (simp <;> omega)))); (have k1_0v11 := ((k1_0v10).drew).st hb11); (have k1_1v11 := ((k1_1v10).drew).st hb11); (have o5_0_0v11 := ((o5_0_0v10).drew).st hb11); (have kG5v11 := ((kG5v10).drew).st hb11); (have o5_1_0v11 := ((o5_1_0v10).drew).st hb11); (have o6_0v11 := ((o6_0v10).drew).st hb11); (have k7_0v11 := ((k7_0v10).drew).st hb11); (have o7_0v11 := ((o7_0v10).drew).st hb11); (have o7_1v11 := ((o7_1v10).drew).st hb11); (have k8_0v11 := ((k8_0v10).drew).st hb11); (have o8_0_0v11 := ((o8_0_0v10).drew).st hb11); (have k9_0v11 := ((k9_0v10).drew).st hb11); (have o8_1_0v11 := ((o8_1_0v10).drew).st hb11); (have hc11 := (bcell hb11).1)))
            | (go_at_call 16; ((with_reducible refine (eqKeyBook_b a0_0 a0_1 a0_2 A6_0 c6_0 a0_0 a0_1 a0_2 A11_0 c11_0 _ ((o6_0v11).rd') ((o11_0).rd') (by omega) (by omega)).mono ?_); rintro e w12 ⟨rfl, hb12⟩; (have s12 : w11.heap.size ≤ w12.heap.size := by have := hb12.size; simpa using this); (have B12 : Below w.heap.size w w12 := (B11).trans (hb12.mono (by first | omega | (simp <;> omega)))); (have k1_0v12 := (k1_0v11).st hb12); (have k1_1v12 := (k1_1v11).st hb12); (have o5_0_0v12 := (o5_0_0v11).st hb12); (have kG5v12 := (kG5v11).st hb12); (have o5_1_0v12 := (o5_1_0v11).st hb12); (have o6_0v12 := (o6_0v11).st hb12); (have k7_0v12 := (k7_0v11).st hb12); (have o7_0v12 := (o7_0v11).st hb12); (have o7_1v12 := (o7_1v11).st hb12); (have k8_0v12 := (k8_0v11).st hb12); (have o8_0_0v12 := (o8_0_0v11).st hb12); (have k9_0v12 := (k9_0v11).st hb12); (have o8_1_0v12 := (o8_1_0v11).st hb12); (have o11_0v12 := (o11_0).st hb12); (have hc12 := (bcell hb12).1))))
        clear xk7_0v10 ck7_0v10_0 ck7_0v10_1 ck7_0v10_2 xk1_0v10 ck1_0v10_0 ck1_0v10_1 ck1_0v10_2
        have hq3 := eqSe_self a1_0 a1_1
        have xk8_0v12 := k8_0v12.lt
        have ck8_0v12_0 := k8_0v12.cell 0
        simp at ck8_0v12_0
        have ck8_0v12_1 := k8_0v12.cell 1
        simp at ck8_0v12_1
        have xk1_1v12 := k1_1v12.lt
        have ck1_1v12_0 := k1_1v12.cell 0
        simp at ck1_1v12_0
        have ck1_1v12_1 := k1_1v12.cell 1
        simp at ck1_1v12_1
        go_wp2_with fail
        go_region_held3 (fun w' => w'.cell? ⟨w7.heap.size, 0, none⟩ = some (.slice A7_0 a1_0.length c7_0) ∧ w'.cell? ⟨w7.heap.size, 1, none⟩ = some (.slice A7_1 a1_1.length c7_1) ∧ w'.cell? ⟨w.heap.size + 1, 0, none⟩ = some (.slice Aa1_0 a1_0.length ca1_0) ∧ w'.cell? ⟨w.heap.size + 1, 1, none⟩ = some (.slice Aa1_1 a1_1.length ca1_1)) (first | go_keep | ((try go_split_ands); (try dsimp only); (repeat' apply And.intro) <;> (first | go_keep | ((refine (hc14 _ _ ?_).trans ?_) <;> first | assumption | omega | (simp <;> omega)) | ((refine (hc13 _ _ ?_).trans ?_) <;> first | assumption | omega | (simp <;> omega)) | ((with_reducible refine cell_realloc ?_ (by with_reducible assumption)) <;> first | (dsimp only; omega) | omega))))
          (first
            | (go_at_call 23; ((with_reducible refine (toSecret_any a1_0 Aa1_0 ca1_0 a1_1 Aa1_1 ca1_1 _ (((h1_0.below B12 (Nat.le_refl _))).drew) (((h1_1.below B12 (Nat.le_refl _))).drew) (by omega) (by omega)).mono ?_); rintro e w13 ⟨A13_0, c13_0, A13_1, c13_1, rfl, o13_0, o13_1, d13, hb13⟩; (have s13 : w12.heap.size ≤ w13.heap.size := by have := hb13.size; simpa using this); (have B13 : Below w.heap.size w w13 := ((B12).drew).trans (hb13.mono (by first | omega | (simp <;> omega)))); (have k1_0v13 := ((k1_0v12).drew).st hb13); (have k1_1v13 := ((k1_1v12).drew).st hb13); (have o5_0_0v13 := ((o5_0_0v12).drew).st hb13); (have kG5v13 := ((kG5v12).drew).st hb13); (have o5_1_0v13 := ((o5_1_0v12).drew).st hb13); (have o6_0v13 := ((o6_0v12).drew).st hb13); (have k7_0v13 := ((k7_0v12).drew).st hb13); (have o7_0v13 := ((o7_0v12).drew).st hb13); (have o7_1v13 := ((o7_1v12).drew).st hb13); (have k8_0v13 := ((k8_0v12).drew).st hb13); (have o8_0_0v13 := ((o8_0_0v12).drew).st hb13); (have k9_0v13 := ((k9_0v12).drew).st hb13); (have o8_1_0v13 := ((o8_1_0v12).drew).st hb13); (have hc13 := (bcell hb13).1)))
            | (go_at_call 26; ((with_reducible refine (eqSecret_b a1_0 A7_0 c7_0 a1_1 A7_1 c7_1 a1_0 A13_0 c13_0 a1_1 A13_1 c13_1 _ ((o7_0v13).rd') ((o7_1v13).rd') ((o13_0).rd') ((o13_1).rd') (by omega) (by omega) (by omega) (by omega)).mono ?_); rintro e w14 ⟨rfl, hb14⟩; (have s14 : w13.heap.size ≤ w14.heap.size := by have := hb14.size; simpa using this); (have B14 : Below w.heap.size w w14 := (B13).trans (hb14.mono (by first | omega | (simp <;> omega)))); (have k1_0v14 := (k1_0v13).st hb14); (have k1_1v14 := (k1_1v13).st hb14); (have o5_0_0v14 := (o5_0_0v13).st hb14); (have kG5v14 := (kG5v13).st hb14); (have o5_1_0v14 := (o5_1_0v13).st hb14); (have o6_0v14 := (o6_0v13).st hb14); (have k7_0v14 := (k7_0v13).st hb14); (have o7_0v14 := (o7_0v13).st hb14); (have o7_1v14 := (o7_1v13).st hb14); (have k8_0v14 := (k8_0v13).st hb14); (have o8_0_0v14 := (o8_0_0v13).st hb14); (have k9_0v14 := (k9_0v13).st hb14); (have o8_1_0v14 := (o8_1_0v13).st hb14); (have o13_0v14 := (o13_0).st hb14); (have o13_1v14 := (o13_1).st hb14); (have hc14 := (bcell hb14).1))))
        clear xk8_0v12 ck8_0v12_0 ck8_0v12_1 xk1_1v12 ck1_1v12_0 ck1_1v12_1
        have xk7_0v14 := k7_0v14.lt
        have ck7_0v14_0 := k7_0v14.cell 0
        simp at ck7_0v14_0
        have ck7_0v14_1 := k7_0v14.cell 1
        simp at ck7_0v14_1
        have ck7_0v14_2 := k7_0v14.cell 2
        simp at ck7_0v14_2
        go_wp2_with fail
        ((with_reducible refine (markKeyBook_b a0_0 a0_1 a0_2 A6_0 c6_0 1 _ o6_0v14 (by omega) (by omega)).mono ?_); rintro e w15 ⟨rfl, f15_0, hb15⟩)
        have s15 : w14.heap.size ≤ w15.heap.size := by have := hb15.size; simpa using this
        have B15 : Below w.heap.size w w15 := (B14).trans (hb15.below (by first | omega | (simp <;> omega)) (by first | omega | (simp <;> omega)))
        have k1_0v15 := (k1_0v14).fr hb15 (by first | omega | (simp <;> omega))
        have k1_1v15 := (k1_1v14).fr hb15 (by first | omega | (simp <;> omega))
        have o5_0_0v15 := (o5_0_0v14).fr hb15 (by first | omega | (simp <;> omega))
        have kG5v15 := (kG5v14).fr hb15 (by first | omega | (simp <;> omega))
        have o5_1_0v15 := (o5_1_0v14).fr hb15 (by first | omega | (simp <;> omega))
        have k7_0v15 := (k7_0v14).fr hb15 (by first | omega | (simp <;> omega))
        have o7_0v15 := (o7_0v14).fr hb15 (by first | omega | (simp <;> omega))
        have o7_1v15 := (o7_1v14).fr hb15 (by first | omega | (simp <;> omega))
        have k8_0v15 := (k8_0v14).fr hb15 (by first | omega | (simp <;> omega))
        have o8_0_0v15 := (o8_0_0v14).fr hb15 (by first | omega | (simp <;> omega))
        have k9_0v15 := (k9_0v14).fr hb15 (by first | omega | (simp <;> omega))
        have o8_1_0v15 := (o8_1_0v14).fr hb15 (by first | omega | (simp <;> omega))
        clear k1_0v14 k1_1v14 o5_0_0v14 kG5v14 o5_1_0v14 k7_0v14 o7_0v14 o7_1v14 k8_0v14 o8_0_0v14 k9_0v14 o8_1_0v14 xk7_0v14 ck7_0v14_0 ck7_0v14_1 ck7_0v14_2
        have xk8_0v15 := k8_0v15.lt
        have ck8_0v15_0 := k8_0v15.cell 0
        simp at ck8_0v15_0
        have ck8_0v15_1 := k8_0v15.cell 1
        simp at ck8_0v15_1
        go_wp2_with fail
        ((with_reducible refine (markSecret_b a1_0 A7_0 c7_0 a1_1 A7_1 c7_1 (1 + (a0_2.length : Int)) _ o7_0v15 o7_1v15 d7 (by omega) (by omega)).mono ?_); rintro e w16 ⟨rfl, f16_0, f16_1, hb16⟩)
        have s16 : w15.heap.size ≤ w16.heap.size := by have := hb16.size; simpa using this
        have B16 : Below w.heap.size w w16 := (B15).trans (hb16.below (by first | omega | (simp <;> omega)) (by first | omega | (simp <;> omega)))
        have k1_0v16 := (k1_0v15).fr hb16 (by first | omega | (simp <;> omega))
        have k1_1v16 := (k1_1v15).fr hb16 (by first | omega | (simp <;> omega))
        have o5_0_0v16 := (o5_0_0v15).fr hb16 (by first | omega | (simp <;> omega))
        have kG5v16 := (kG5v15).fr hb16 (by first | omega | (simp <;> omega))
        have o5_1_0v16 := (o5_1_0v15).fr hb16 (by first | omega | (simp <;> omega))
        have k8_0v16 := (k8_0v15).fr hb16 (by first | omega | (simp <;> omega))
        have o8_0_0v16 := (o8_0_0v15).fr hb16 (by first | omega | (simp <;> omega))
        have k9_0v16 := (k9_0v15).fr hb16 (by first | omega | (simp <;> omega))
        have o8_1_0v16 := (o8_1_0v15).fr hb16 (by first | omega | (simp <;> omega))
        clear k1_0v15 k1_1v15 o5_0_0v15 kG5v15 o5_1_0v15 k8_0v15 o8_0_0v15 k9_0v15 o8_1_0v15 xk8_0v15 ck8_0v15_0 ck8_0v15_1
        have xk9_0v16 := k9_0v16.lt
        have ck9_0v16_0 := k9_0v16.cell 0
        simp at ck9_0v16_0
        have ck9_0v16_1 := k9_0v16.cell 1
        simp at ck9_0v16_1
        have ck9_0v16_2 := k9_0v16.cell 2
        simp at ck9_0v16_2
        have xkG5v16 := kG5v16.lt
        have ckG5v16_0 := kG5v16.cell 0
        simp at ckG5v16_0
        have ckG5v16_1 := kG5v16.cell 1
        simp at ckG5v16_1
        have ckG5v16_2 := kG5v16.cell 2
        simp at ckG5v16_2
        go_wp2_with fail
        ((with_reducible refine (eqKeyBook_b (rsK a0_0 a0_1 a0_2 a1_0 a1_1) (rsG a0_0 a0_1 a0_2 a1_0 a1_1) (rsL a0_0 a0_1 a0_2 a1_0 a1_1) A8_0_0 c8_0_0 (rsK a0_0 a0_1 a0_2 a1_0 a1_1) (rsG a0_0 a0_1 a0_2 a1_0 a1_1) (rsL a0_0 a0_1 a0_2 a1_0 a1_1) A5_0_0 c5_0_0 _ ((o8_0_0v16).rd') o5_0_0v16 (by omega) (by omega)).mono ?_); rintro e w17 ⟨rfl, hb17⟩)
        have s17 : w16.heap.size ≤ w17.heap.size := by have := hb17.size; simpa using this
        have B17 : Below w.heap.size w w17 := (B16).trans (hb17.mono (by first | omega | (simp <;> omega)))
        have k1_0v17 := (k1_0v16).st hb17
        have k1_1v17 := (k1_1v16).st hb17
        have o5_0_0v17 := (o5_0_0v16).st hb17
        have kG5v17 := (kG5v16).st hb17
        have o5_1_0v17 := (o5_1_0v16).st hb17
        have o8_0_0v17 := (o8_0_0v16).st hb17
        have k9_0v17 := (k9_0v16).st hb17
        have o8_1_0v17 := (o8_1_0v16).st hb17
        clear k1_0v16 k1_1v16 o5_0_0v16 kG5v16 o5_1_0v16 o8_0_0v16 k9_0v16 o8_1_0v16 xk9_0v16 ck9_0v16_0 ck9_0v16_1 ck9_0v16_2 xkG5v16 ckG5v16_0 ckG5v16_1 ckG5v16_2
        have xk9_0v17 := k9_0v17.lt
        have ck9_0v17_0 := k9_0v17.cell 0
        simp at ck9_0v17_0
        have ck9_0v17_1 := k9_0v17.cell 1
        simp at ck9_0v17_1
        have ck9_0v17_2 := k9_0v17.cell 2
        simp at ck9_0v17_2
        have xkG5v17 := kG5v17.lt
        have ckG5v17_0 := kG5v17.cell 0
        simp at ckG5v17_0
        have ckG5v17_1 := kG5v17.cell 1
        simp at ckG5v17_1
        have ckG5v17_2 := kG5v17.cell 2
        simp at ckG5v17_2
        go_wp2_with fail
        ((with_reducible refine (eqIntS_b (rsS a0_0 a0_1 a0_2 a1_0 a1_1) A8_1_0 c8_1_0 (rsS a0_0 a0_1 a0_2 a1_0 a1_1) A5_1_0 c5_1_0 _ ((o8_1_0v17).rd') o5_1_0v17 (by omega) (by omega)).mono ?_); rintro e w18 ⟨rfl, hb18⟩)
        have s18 : w17.heap.size ≤ w18.heap.size := by have := hb18.size; simpa using this
        have B18 : Below w.heap.size w w18 := (B17).trans (hb18.mono (by first | omega | (simp <;> omega)))
        have k1_0v18 := (k1_0v17).st hb18
        have k1_1v18 := (k1_1v17).st hb18
        have o5_0_0v18 := (o5_0_0v17).st hb18
        have kG5v18 := (kG5v17).st hb18
        have o5_1_0v18 := (o5_1_0v17).st hb18
        have o8_0_0v18 := (o8_0_0v17).st hb18
        have k9_0v18 := (k9_0v17).st hb18
        have o8_1_0v18 := (o8_1_0v17).st hb18
        clear k1_0v17 k1_1v17 o5_0_0v17 kG5v17 o5_1_0v17 o8_0_0v17 k9_0v17 o8_1_0v17 xk9_0v17 ck9_0v17_0 ck9_0v17_1 ck9_0v17_2 xkG5v17 ckG5v17_0 ckG5v17_1 ckG5v17_2
        have xk9_0v18 := k9_0v18.lt
        have ck9_0v18_0 := k9_0v18.cell 0
        simp at ck9_0v18_0
        have ck9_0v18_1 := k9_0v18.cell 1
        simp at ck9_0v18_1
        have ck9_0v18_2 := k9_0v18.cell 2
        simp at ck9_0v18_2
        go_wp2_with fail
        ((with_reducible refine (markKeyBook_b (rsK a0_0 a0_1 a0_2 a1_0 a1_1) (rsG a0_0 a0_1 a0_2 a1_0 a1_1) (rsL a0_0 a0_1 a0_2 a1_0 a1_1) A8_0_0 c8_0_0 1 _ o8_0_0v18 (by omega) (by omega)).mono ?_); rintro e w19 ⟨rfl, f19_0, hb19⟩)
        have s19 : w18.heap.size ≤ w19.heap.size := by have := hb19.size; simpa using this
        have B19 : Below w.heap.size w w19 := (B18).trans (hb19.below (by first | omega | (simp <;> omega)) (by first | omega | (simp <;> omega)))
        have k1_0v19 := (k1_0v18).fr hb19 (by first | omega | (simp <;> omega))
        have k1_1v19 := (k1_1v18).fr hb19 (by first | omega | (simp <;> omega))
        have o5_0_0v19 := (o5_0_0v18).fr hb19 (by first | omega | (simp <;> omega))
        have kG5v19 := (kG5v18).fr hb19 (by first | omega | (simp <;> omega))
        have o5_1_0v19 := (o5_1_0v18).fr hb19 (by first | omega | (simp <;> omega))
        have k9_0v19 := (k9_0v18).fr hb19 (by first | omega | (simp <;> omega))
        have o8_1_0v19 := (o8_1_0v18).fr hb19 (by first | omega | (simp <;> omega))
        clear k1_0v18 k1_1v18 o5_0_0v18 kG5v18 o5_1_0v18 k9_0v18 o8_1_0v18 xk9_0v18 ck9_0v18_0 ck9_0v18_1 ck9_0v18_2
        go_wp2_with fail
        ((with_reducible refine (markIntS_b (rsS a0_0 a0_1 a0_2 a1_0 a1_1) A8_1_0 c8_1_0 (1 + ((rsL a0_0 a0_1 a0_2 a1_0 a1_1).length : Int)) _ o8_1_0v19 (by omega) (by omega)).mono ?_); rintro e w20 ⟨rfl, f20_0, hb20⟩)
        have s20 : w19.heap.size ≤ w20.heap.size := by have := hb20.size; simpa using this
        have B20 : Below w.heap.size w w20 := (B19).trans (hb20.below (by first | omega | (simp <;> omega)) (by first | omega | (simp <;> omega)))
        have k1_0v20 := (k1_0v19).fr hb20 (by first | omega | (simp <;> omega))
        have k1_1v20 := (k1_1v19).fr hb20 (by first | omega | (simp <;> omega))
        have o5_0_0v20 := (o5_0_0v19).fr hb20 (by first | omega | (simp <;> omega))
        have kG5v20 := (kG5v19).fr hb20 (by first | omega | (simp <;> omega))
        have o5_1_0v20 := (o5_1_0v19).fr hb20 (by first | omega | (simp <;> omega))
        have f19_0v20 := (f19_0).fr hb20 (by first | omega | (simp <;> omega))
        have k9_0v20 := (k9_0v19).fr hb20 (by first | omega | (simp <;> omega))
        clear k1_0v19 k1_1v19 o5_0_0v19 kG5v19 o5_1_0v19 f19_0 k9_0v19
        have xk9_0v20 := k9_0v20.lt
        have ck9_0v20_0 := k9_0v20.cell 0
        simp at ck9_0v20_0
        have ck9_0v20_1 := k9_0v20.cell 1
        simp at ck9_0v20_1
        have ck9_0v20_2 := k9_0v20.cell 2
        simp at ck9_0v20_2
        go_wp2_with fail
        ((with_reducible refine (heldKeyBook_b (rsK a0_0 a0_1 a0_2 a1_0 a1_1) (rsG a0_0 a0_1 a0_2 a1_0 a1_1) (rsL a0_0 a0_1 a0_2 a1_0 a1_1) A8_0_0 c8_0_0 1 _ ((f19_0v20).rd') (by omega) (by omega)).mono ?_); rintro e w21 ⟨rfl, hb21⟩)
        have s21 : w20.heap.size ≤ w21.heap.size := by have := hb21.size; simpa using this
        have B21 : Below w.heap.size w w21 := (B20).trans (hb21.mono (by first | omega | (simp <;> omega)))
        have k1_0v21 := (k1_0v20).st hb21
        have k1_1v21 := (k1_1v20).st hb21
        have o5_0_0v21 := (o5_0_0v20).st hb21
        have kG5v21 := (kG5v20).st hb21
        have o5_1_0v21 := (o5_1_0v20).st hb21
        have f19_0v21 := (f19_0v20).st hb21
        have k9_0v21 := (k9_0v20).st hb21
        have f20_0v21 := (f20_0).st hb21
        clear k1_0v20 k1_1v20 o5_0_0v20 kG5v20 o5_1_0v20 f19_0v20 k9_0v20 f20_0 xk9_0v20 ck9_0v20_0 ck9_0v20_1 ck9_0v20_2
        go_wp2_with fail
        ((with_reducible refine (heldIntS_b (rsS a0_0 a0_1 a0_2 a1_0 a1_1) A8_1_0 c8_1_0 (1 + ((rsL a0_0 a0_1 a0_2 a1_0 a1_1).length : Int)) _ ((f20_0v21).rd') (by omega) (by omega)).mono ?_); rintro e w22 ⟨rfl, hb22⟩)
        have s22 : w21.heap.size ≤ w22.heap.size := by have := hb22.size; simpa using this
        have B22 : Below w.heap.size w w22 := (B21).trans (hb22.mono (by first | omega | (simp <;> omega)))
        have k1_0v22 := (k1_0v21).st hb22
        have k1_1v22 := (k1_1v21).st hb22
        have o5_0_0v22 := (o5_0_0v21).st hb22
        have kG5v22 := (kG5v21).st hb22
        have o5_1_0v22 := (o5_1_0v21).st hb22
        have f19_0v22 := (f19_0v21).st hb22
        have k9_0v22 := (k9_0v21).st hb22
        have f20_0v22 := (f20_0v21).st hb22
        clear k1_0v21 k1_1v21 o5_0_0v21 kG5v21 o5_1_0v21 f19_0v21 k9_0v21 f20_0v21
        have xk1_0v22 := k1_0v22.lt
        have ck1_0v22_0 := k1_0v22.cell 0
        simp at ck1_0v22_0
        have ck1_0v22_1 := k1_0v22.cell 1
        simp at ck1_0v22_1
        have ck1_0v22_2 := k1_0v22.cell 2
        simp at ck1_0v22_2
        have xk1_1v22 := k1_1v22.lt
        have ck1_1v22_0 := k1_1v22.cell 0
        simp at ck1_1v22_0
        have ck1_1v22_1 := k1_1v22.cell 1
        simp at ck1_1v22_1
        go_upto_region 35 with fail
        go_cut [17, 18, 19] from 20 (fun s17_ s18_ s19_ wq => ∃ (G : Nat) (A25_0_0 : Option Addr) (c25_0_0 : Nat) (A25_1_0 : Option Addr) (c25_1_0 : Nat) (il25_0 : Nat) (ir25_0 : Nat) (il25_1 : Nat) (ir25_1 : Nat), s17_ = .pointer (some ⟨G, 0, none⟩) ∧ s18_ = .slice A25_1_0 (rsS a0_0 a0_1 a0_2 a1_0 a1_1).length c25_1_0 ∧ s19_ = .bool (rsB a0_0 a0_1 a0_2 a1_0 a1_1) ∧ w22.heap.size ≤ G ∧ Own wq il25_0 ir25_0 (.slice A25_0_0 (rsL a0_0 a0_1 a0_2 a1_0 a1_1).length c25_0_0) (rsL a0_0 a0_1 a0_2 a1_0 a1_1) ∧ Own wq il25_1 ir25_1 (.slice A25_1_0 (rsS a0_0 a0_1 a0_2 a1_0 a1_1).length c25_1_0) (rsS a0_0 a0_1 a0_2 a1_0 a1_1) ∧ (w22.heap.size ≤ il25_0 ∧ ir25_0 ≤ wq.heap.size ∧ w22.heap.size ≤ il25_1 ∧ ir25_1 ≤ wq.heap.size ∧ (ir25_0 ≤ il25_1 ∨ ir25_1 ≤ il25_0)) ∧ (rsL a0_0 a0_1 a0_2 a1_0 a1_1).length ≤ 1048576 ∧ (rsS a0_0 a0_1 a0_2 a1_0 a1_1).length ≤ 1048576 ∧ Bk wq G 26 #[.int .i64 (rsK a0_0 a0_1 a0_2 a1_0 a1_1), .int .i64 (rsG a0_0 a0_1 a0_2 a1_0 a1_1), .slice A25_0_0 (rsL a0_0 a0_1 a0_2 a1_0 a1_1).length c25_0_0] ∧ Below w22.heap.size w22 wq)
        case first =>
          go_wp2_with fail
          go_region_held3 (fun w' => w'.cell? ⟨w.heap.size, 0, none⟩ = some (.int .i64 a0_0) ∧ w'.cell? ⟨w.heap.size, 1, none⟩ = some (.int .i64 a0_1) ∧ w'.cell? ⟨w.heap.size, 2, none⟩ = some (.slice Aa0_2 a0_2.length ca0_2) ∧ w'.cell? ⟨w.heap.size + 1, 0, none⟩ = some (.slice Aa1_0 a1_0.length ca1_0) ∧ w'.cell? ⟨w.heap.size + 1, 1, none⟩ = some (.slice Aa1_1 a1_1.length ca1_1)) (((try go_split_ands); (try dsimp only); (repeat' apply And.intro) <;> (first | with_reducible assumption | with_reducible exact cellF3 (by omega) (by with_reducible assumption) | ((with_reducible refine cell_realloc ?_ (by with_reducible assumption)) <;> first | (dsimp only; omega) | omega) | ((with_reducible refine (World.cell?_alloc_lt _ _ _ ?_).trans ?_) <;> first | with_reducible assumption | omega | (simp <;> omega)) | ((with_reducible refine (hc25 _ _ ?_).trans ?_) <;> first | with_reducible assumption | omega | (simp <;> omega)) | ((with_reducible refine (hc24 _ _ ?_).trans ?_) <;> first | with_reducible assumption | omega | (simp <;> omega)) | ((with_reducible refine (hc23 _ _ ?_).trans ?_) <;> first | with_reducible assumption | omega | (simp <;> omega)) | go_keep)))
            (first
              | (go_at_call 14; ((with_reducible refine (toKeyBook_any a0_0 a0_1 a0_2 Aa0_2 ca0_2 _ (((h0_0.below B22 (Nat.le_refl _))).drew) (by omega)).mono ?_); rintro e w23 ⟨A23_0, c23_0, rfl, o23_0, hb23⟩; (have s23 : w22.heap.size ≤ w23.heap.size := by have := hb23.size; simpa using this); (have B23 : Below w.heap.size w w23 := ((B22).drew).trans (hb23.mono (by first | omega | (simp <;> omega)))); (have k1_0v23 := ((k1_0v22).drew).st hb23); (have k1_1v23 := ((k1_1v22).drew).st hb23); (have o5_0_0v23 := ((o5_0_0v22).drew).st hb23); (have kG5v23 := ((kG5v22).drew).st hb23); (have o5_1_0v23 := ((o5_1_0v22).drew).st hb23); (have f19_0v23 := ((f19_0v22).drew).st hb23); (have k9_0v23 := ((k9_0v22).drew).st hb23); (have f20_0v23 := ((f20_0v22).drew).st hb23); (have H23 : Below w22.heap.size w22 w23 := ((((Below.refl w22.heap.size w22))).drew).trans (hb23.mono (by first | omega | (simp <;> omega)))); (have hc23 := (bcell hb23).1); (try (have kG23 := kG22.st hb23))))
              | (go_at_call 14; ((with_reducible refine (toKeyBook_any a0_0 a0_1 a0_2 Aa0_2 ca0_2 _ ((((h0_0.below B22 (Nat.le_refl _))).alloc _).drew) (by omega)).mono ?_); rintro e w23 ⟨A23_0, c23_0, rfl, o23_0, hb23⟩; (have s23 : w22.heap.size + 1 ≤ w23.heap.size := by have := hb23.size; simpa using this); (have B23 : Below w.heap.size w w23 := (((B22).alloc (by first | omega | (simp <;> omega)) _).drew).trans (hb23.mono (by first | omega | (simp <;> omega)))); (have k1_0v23 := (((k1_0v22).alloc _).drew).st hb23); (have k1_1v23 := (((k1_1v22).alloc _).drew).st hb23); (have o5_0_0v23 := (((o5_0_0v22).alloc _).drew).st hb23); (have kG5v23 := (((kG5v22).alloc _).drew).st hb23); (have o5_1_0v23 := (((o5_1_0v22).alloc _).drew).st hb23); (have f19_0v23 := (((f19_0v22).alloc _).drew).st hb23); (have k9_0v23 := (((k9_0v22).alloc _).drew).st hb23); (have f20_0v23 := (((f20_0v22).alloc _).drew).st hb23); (have H23 : Below w22.heap.size w22 w23 := (((((Below.refl w22.heap.size w22))).alloc (by first | omega | (simp <;> omega)) _).drew).trans (hb23.mono (by first | omega | (simp <;> omega)))); (have hc23 := (bcell hb23).1); (have kG23 := ((Bk.new w22 26 #[.int .i64 0, .int .i64 0, .slice none 0 0]).drew).st hb23)))
              | (go_at_call 23; ((with_reducible refine (toSecret_any a1_0 Aa1_0 ca1_0 a1_1 Aa1_1 ca1_1 _ ((h1_0.below B23 (Nat.le_refl _))) ((h1_1.below B23 (Nat.le_refl _))) (by omega) (by omega)).mono ?_); rintro e w24 ⟨A24_0, c24_0, A24_1, c24_1, rfl, o24_0, o24_1, d24, hb24⟩; (have s24 : w23.heap.size ≤ w24.heap.size := by have := hb24.size; simpa using this); (have B24 : Below w.heap.size w w24 := (B23).trans (hb24.mono (by first | omega | (simp <;> omega)))); (have k1_0v24 := (k1_0v23).st hb24); (have k1_1v24 := (k1_1v23).st hb24); (have o5_0_0v24 := (o5_0_0v23).st hb24); (have kG5v24 := (kG5v23).st hb24); (have o5_1_0v24 := (o5_1_0v23).st hb24); (have f19_0v24 := (f19_0v23).st hb24); (have k9_0v24 := (k9_0v23).st hb24); (have f20_0v24 := (f20_0v23).st hb24); (have o23_0v24 := (o23_0).st hb24); (have H24 : Below w22.heap.size w22 w24 := ((H23)).trans (hb24.mono (by first | omega | (simp <;> omega)))); (have hc24 := (bcell hb24).1); (try (have kG24 := kG23.st hb24))))
              | (go_at_call 23; ((with_reducible refine (toSecret_any a1_0 Aa1_0 ca1_0 a1_1 Aa1_1 ca1_1 _ (((h1_0.below B23 (Nat.le_refl _))).alloc _) (((h1_1.below B23 (Nat.le_refl _))).alloc _) (by omega) (by omega)).mono ?_); rintro e w24 ⟨A24_0, c24_0, A24_1, c24_1, rfl, o24_0, o24_1, d24, hb24⟩; (have s24 : w23.heap.size + 1 ≤ w24.heap.size := by have := hb24.size; simpa using this); (have B24 : Below w.heap.size w w24 := ((B23).alloc (by first | omega | (simp <;> omega)) _).trans (hb24.mono (by first | omega | (simp <;> omega)))); (have k1_0v24 := ((k1_0v23).alloc _).st hb24); (have k1_1v24 := ((k1_1v23).alloc _).st hb24); (have o5_0_0v24 := ((o5_0_0v23).alloc _).st hb24); (have kG5v24 := ((kG5v23).alloc _).st hb24); (have o5_1_0v24 := ((o5_1_0v23).alloc _).st hb24); (have f19_0v24 := ((f19_0v23).alloc _).st hb24); (have k9_0v24 := ((k9_0v23).alloc _).st hb24); (have f20_0v24 := ((f20_0v23).alloc _).st hb24); (have o23_0v24 := ((o23_0).alloc _).st hb24); (have H24 : Below w22.heap.size w22 w24 := (((H23)).alloc (by first | omega | (simp <;> omega)) _).trans (hb24.mono (by first | omega | (simp <;> omega)))); (have hc24 := (bcell hb24).1); (have kG24 := ((Bk.new w23 26 #[.int .i64 0, .int .i64 0, .slice none 0 0])).st hb24)))
              | (go_at_call 47; ((with_reducible refine (iReceiveSecret_any a0_0 a0_1 a0_2 A23_0 c23_0 a1_0 A24_0 c24_0 a1_1 A24_1 c24_1 _ ((o23_0v24).rd') ((o24_0).rd') ((o24_1).rd') (by omega) (by omega) (by omega) ).mono ?_); rintro e w25 ⟨A25_0_0, c25_0_0, A25_1_0, c25_1_0, il25_0, ir25_0, il25_1, ir25_1, rfl, o25_0_0, o25_1_0, ⟨ib25_0, ib25_1, ib25_2, ib25_3, ib25_4⟩, l25_0, l25_1, hb25⟩; (have s25 : w24.heap.size ≤ w25.heap.size := by have := hb25.size; simpa using this); (have B25 : Below w.heap.size w w25 := (B24).trans (hb25.mono (by first | omega | (simp <;> omega)))); (have k1_0v25 := (k1_0v24).st hb25); (have k1_1v25 := (k1_1v24).st hb25); (have o5_0_0v25 := (o5_0_0v24).st hb25); (have kG5v25 := (kG5v24).st hb25); (have o5_1_0v25 := (o5_1_0v24).st hb25); (have f19_0v25 := (f19_0v24).st hb25); (have k9_0v25 := (k9_0v24).st hb25); (have f20_0v25 := (f20_0v24).st hb25); (have o23_0v25 := (o23_0v24).st hb25); (have o24_0v25 := (o24_0).st hb25); (have o24_1v25 := (o24_1).st hb25); (have jb25_0 : w24.heap.size ≤ il25_0 := by simpa using ib25_0); (have jb25_1 : w24.heap.size ≤ il25_1 := by simpa using ib25_2); (have H25 : Below w22.heap.size w22 w25 := ((H24)).trans (hb25.mono (by first | omega | (simp <;> omega)))); (have hc25 := (bcell hb25).1); (try (have kG25 := kG24.st hb25)); (try (have g0 : _ = some (Value.int .i64 0) := kG25.cell 0)); (try (have g1 : _ = some (Value.int .i64 0) := kG25.cell 1)); (try (have g2 : _ = some (Value.slice none 0 0) := kG25.cell 2)); (try (have gf0 := kG25.frozen 0)); (try (have gf1 := kG25.frozen 1)); (try (have gf2 := kG25.frozen 2)); (try (have gl := kG25.lt))))
              | (go_at_call 47; ((with_reducible refine (iReceiveSecret_any a0_0 a0_1 a0_2 A23_0 c23_0 a1_0 A24_0 c24_0 a1_1 A24_1 c24_1 _ (((o23_0v24).alloc _).rd') (((o24_0).alloc _).rd') (((o24_1).alloc _).rd') (by omega) (by omega) (by omega) ).mono ?_); rintro e w25 ⟨A25_0_0, c25_0_0, A25_1_0, c25_1_0, il25_0, ir25_0, il25_1, ir25_1, rfl, o25_0_0, o25_1_0, ⟨ib25_0, ib25_1, ib25_2, ib25_3, ib25_4⟩, l25_0, l25_1, hb25⟩; (have s25 : w24.heap.size + 1 ≤ w25.heap.size := by have := hb25.size; simpa using this); (have B25 : Below w.heap.size w w25 := ((B24).alloc (by first | omega | (simp <;> omega)) _).trans (hb25.mono (by first | omega | (simp <;> omega)))); (have k1_0v25 := ((k1_0v24).alloc _).st hb25); (have k1_1v25 := ((k1_1v24).alloc _).st hb25); (have o5_0_0v25 := ((o5_0_0v24).alloc _).st hb25); (have kG5v25 := ((kG5v24).alloc _).st hb25); (have o5_1_0v25 := ((o5_1_0v24).alloc _).st hb25); (have f19_0v25 := ((f19_0v24).alloc _).st hb25); (have k9_0v25 := ((k9_0v24).alloc _).st hb25); (have f20_0v25 := ((f20_0v24).alloc _).st hb25); (have o23_0v25 := ((o23_0v24).alloc _).st hb25); (have o24_0v25 := ((o24_0).alloc _).st hb25); (have o24_1v25 := ((o24_1).alloc _).st hb25); (have jb25_0 : w24.heap.size + 1 ≤ il25_0 := by simpa using ib25_0); (have jb25_1 : w24.heap.size + 1 ≤ il25_1 := by simpa using ib25_2); (have H25 : Below w22.heap.size w22 w25 := (((H24)).alloc (by first | omega | (simp <;> omega)) _).trans (hb25.mono (by first | omega | (simp <;> omega)))); (have hc25 := (bcell hb25).1); (have kG25 := ((Bk.new w24 26 #[.int .i64 0, .int .i64 0, .slice none 0 0])).st hb25); (try (have g0 : _ = some (Value.int .i64 0) := kG25.cell 0)); (try (have g1 : _ = some (Value.int .i64 0) := kG25.cell 1)); (try (have g2 : _ = some (Value.slice none 0 0) := kG25.cell 2)); (try (have gf0 := kG25.frozen 0)); (try (have gf1 := kG25.frozen 1)); (try (have gf2 := kG25.frozen 2)); (try (have gl := kG25.lt)))))
          all_goals
            clear xk1_0v22 ck1_0v22_0 ck1_0v22_1 ck1_0v22_2 xk1_1v22 ck1_1v22_0 ck1_1v22_1
            go_wp2_with fail
            go_meet
            case rel => first | exact ⟨_, _, _, _, _, _, _, _, _, rfl, rfl, rfl, (by first | omega | (simp <;> omega)), (ownF3 o25_0_0 (by first | omega | (simp <;> omega))), (ownF3 o25_1_0 (by first | omega | (simp <;> omega))), ⟨(by first | omega | (simp only [size_setCell]; omega) | (simp <;> omega)), (by first | omega | (simp only [size_setCell]; omega) | (simp <;> omega)), (by first | omega | (simp only [size_setCell]; omega) | (simp <;> omega)), (by first | omega | (simp only [size_setCell]; omega) | (simp <;> omega)), (by first | omega | (simp only [size_setCell]; omega) | (simp <;> omega))⟩, (by omega), (by omega), (bkF3 kG25), (belF3 H25 (by first | omega | (simp <;> omega)))⟩ | exact ⟨_, _, _, _, _, _, _, _, _, rfl, rfl, rfl, (by first | omega | (simp <;> omega)), ((o25_0_0).alloc _), ((o25_1_0).alloc _), ⟨(by first | omega | (simp only [size_setCell]; omega) | (simp <;> omega)), (by first | omega | (simp only [size_setCell]; omega) | (simp <;> omega)), (by first | omega | (simp only [size_setCell]; omega) | (simp <;> omega)), (by first | omega | (simp only [size_setCell]; omega) | (simp <;> omega)), (by first | omega | (simp only [size_setCell]; omega) | (simp <;> omega))⟩, (by omega), (by omega), (Bk.new _ _ _), (H25.alloc (by first | omega | (simp <;> omega)) _)⟩
        case rest =>
          obtain ⟨G25, A25_0_0, c25_0_0, A25_1_0, c25_1_0, il25_0, ir25_0, il25_1, ir25_1, rfl, rfl, rfl, hG25, o25_0_0, o25_1_0, ⟨ib25_0, ib25_1, ib25_2, ib25_3, ib25_4⟩, l25_0, l25_1, kG25, hb25⟩ := hcut
          obtain ⟨w25, rfl⟩ : ∃ w25, w25 = wc := ⟨_, rfl⟩
          have xG25 := kG25.lt
          have s25 : w22.heap.size ≤ w25.heap.size := hb25.size
          have B25 : Below w.heap.size w w25 := (B22).trans (hb25.mono (by first | omega | (simp <;> omega)))
          have k1_0v25 := (k1_0v22).st hb25
          have k1_1v25 := (k1_1v22).st hb25
          have o5_0_0v25 := (o5_0_0v22).st hb25
          have kG5v25 := (kG5v22).st hb25
          have o5_1_0v25 := (o5_1_0v22).st hb25
          have f19_0v25 := (f19_0v22).st hb25
          have k9_0v25 := (k9_0v22).st hb25
          have f20_0v25 := (f20_0v22).st hb25
          clear k1_0v22 k1_1v22 o5_0_0v22 kG5v22 o5_1_0v22 f19_0v22 k9_0v22 f20_0v22 xk1_0v22 ck1_0v22_0 ck1_0v22_1 ck1_0v22_2 xk1_1v22 ck1_1v22_0 ck1_1v22_1
          have xkG25 := kG25.lt
          have ckG25_0 := kG25.cell 0
          simp at ckG25_0
          have ckG25_1 := kG25.cell 1
          simp at ckG25_1
          have ckG25_2 := kG25.cell 2
          simp at ckG25_2
          have xkG5v25 := kG5v25.lt
          have ckG5v25_0 := kG5v25.cell 0
          simp at ckG5v25_0
          have ckG5v25_1 := kG5v25.cell 1
          simp at ckG5v25_1
          have ckG5v25_2 := kG5v25.cell 2
          simp at ckG5v25_2
          go_wp2_with fail
          ((with_reducible refine (eqKeyBook_b (rsK a0_0 a0_1 a0_2 a1_0 a1_1) (rsG a0_0 a0_1 a0_2 a1_0 a1_1) (rsL a0_0 a0_1 a0_2 a1_0 a1_1) A25_0_0 c25_0_0 (rsK a0_0 a0_1 a0_2 a1_0 a1_1) (rsG a0_0 a0_1 a0_2 a1_0 a1_1) (rsL a0_0 a0_1 a0_2 a1_0 a1_1) A5_0_0 c5_0_0 _ ((o25_0_0).rd') o5_0_0v25 (by omega) (by omega)).mono ?_); rintro e w26 ⟨rfl, hb26⟩)
          have s26 : w25.heap.size ≤ w26.heap.size := by have := hb26.size; simpa using this
          have B26 : Below w.heap.size w w26 := (B25).trans (hb26.mono (by first | omega | (simp <;> omega)))
          have k1_0v26 := (k1_0v25).st hb26
          have k1_1v26 := (k1_1v25).st hb26
          have o5_0_0v26 := (o5_0_0v25).st hb26
          have kG5v26 := (kG5v25).st hb26
          have o5_1_0v26 := (o5_1_0v25).st hb26
          have f19_0v26 := (f19_0v25).st hb26
          have k9_0v26 := (k9_0v25).st hb26
          have f20_0v26 := (f20_0v25).st hb26
          have o25_0_0v26 := (o25_0_0).st hb26
          have kG25v26 := (kG25).st hb26
          have o25_1_0v26 := (o25_1_0).st hb26
          clear k1_0v25 k1_1v25 o5_0_0v25 kG5v25 o5_1_0v25 f19_0v25 k9_0v25 f20_0v25 o25_0_0 kG25 o25_1_0 xkG25 ckG25_0 ckG25_1 ckG25_2 xkG5v25 ckG5v25_0 ckG5v25_1 ckG5v25_2
          have xkG25v26 := kG25v26.lt
          have ckG25v26_0 := kG25v26.cell 0
          simp at ckG25v26_0
          have ckG25v26_1 := kG25v26.cell 1
          simp at ckG25v26_1
          have ckG25v26_2 := kG25v26.cell 2
          simp at ckG25v26_2
          have xkG5v26 := kG5v26.lt
          have ckG5v26_0 := kG5v26.cell 0
          simp at ckG5v26_0
          have ckG5v26_1 := kG5v26.cell 1
          simp at ckG5v26_1
          have ckG5v26_2 := kG5v26.cell 2
          simp at ckG5v26_2
          go_wp2_with fail
          ((with_reducible refine (eqIntS_b (rsS a0_0 a0_1 a0_2 a1_0 a1_1) A25_1_0 c25_1_0 (rsS a0_0 a0_1 a0_2 a1_0 a1_1) A5_1_0 c5_1_0 _ ((o25_1_0v26).rd') o5_1_0v26 (by omega) (by omega)).mono ?_); rintro e w27 ⟨rfl, hb27⟩)
          have s27 : w26.heap.size ≤ w27.heap.size := by have := hb27.size; simpa using this
          have B27 : Below w.heap.size w w27 := (B26).trans (hb27.mono (by first | omega | (simp <;> omega)))
          have k1_0v27 := (k1_0v26).st hb27
          have k1_1v27 := (k1_1v26).st hb27
          have o5_0_0v27 := (o5_0_0v26).st hb27
          have kG5v27 := (kG5v26).st hb27
          have o5_1_0v27 := (o5_1_0v26).st hb27
          have f19_0v27 := (f19_0v26).st hb27
          have k9_0v27 := (k9_0v26).st hb27
          have f20_0v27 := (f20_0v26).st hb27
          have o25_0_0v27 := (o25_0_0v26).st hb27
          have kG25v27 := (kG25v26).st hb27
          have o25_1_0v27 := (o25_1_0v26).st hb27
          clear k1_0v26 k1_1v26 o5_0_0v26 kG5v26 o5_1_0v26 f19_0v26 k9_0v26 f20_0v26 o25_0_0v26 kG25v26 o25_1_0v26 xkG25v26 ckG25v26_0 ckG25v26_1 ckG25v26_2 xkG5v26 ckG5v26_0 ckG5v26_1 ckG5v26_2
          have xk9_0v27 := k9_0v27.lt
          have ck9_0v27_0 := k9_0v27.cell 0
          simp at ck9_0v27_0
          have ck9_0v27_1 := k9_0v27.cell 1
          simp at ck9_0v27_1
          have ck9_0v27_2 := k9_0v27.cell 2
          simp at ck9_0v27_2
          go_wp2_with fail
          ((with_reducible refine (heldKeyBook_b (rsK a0_0 a0_1 a0_2 a1_0 a1_1) (rsG a0_0 a0_1 a0_2 a1_0 a1_1) (rsL a0_0 a0_1 a0_2 a1_0 a1_1) A8_0_0 c8_0_0 1 _ ((f19_0v27).rd') (by omega) (by omega)).mono ?_); rintro e w28 ⟨rfl, hb28⟩)
          have s28 : w27.heap.size ≤ w28.heap.size := by have := hb28.size; simpa using this
          have B28 : Below w.heap.size w w28 := (B27).trans (hb28.mono (by first | omega | (simp <;> omega)))
          have k1_0v28 := (k1_0v27).st hb28
          have k1_1v28 := (k1_1v27).st hb28
          have o5_0_0v28 := (o5_0_0v27).st hb28
          have kG5v28 := (kG5v27).st hb28
          have o5_1_0v28 := (o5_1_0v27).st hb28
          have f19_0v28 := (f19_0v27).st hb28
          have k9_0v28 := (k9_0v27).st hb28
          have f20_0v28 := (f20_0v27).st hb28
          have o25_0_0v28 := (o25_0_0v27).st hb28
          have kG25v28 := (kG25v27).st hb28
          have o25_1_0v28 := (o25_1_0v27).st hb28
          clear k1_0v27 k1_1v27 o5_0_0v27 kG5v27 o5_1_0v27 f19_0v27 k9_0v27 f20_0v27 o25_0_0v27 kG25v27 o25_1_0v27 xk9_0v27 ck9_0v27_0 ck9_0v27_1 ck9_0v27_2
          go_wp2_with fail
          ((with_reducible refine (heldIntS_b (rsS a0_0 a0_1 a0_2 a1_0 a1_1) A8_1_0 c8_1_0 (1 + ((rsL a0_0 a0_1 a0_2 a1_0 a1_1).length : Int)) _ ((f20_0v28).rd') (by omega) (by omega)).mono ?_); rintro e w29 ⟨rfl, hb29⟩)
          have s29 : w28.heap.size ≤ w29.heap.size := by have := hb29.size; simpa using this
          have B29 : Below w.heap.size w w29 := (B28).trans (hb29.mono (by first | omega | (simp <;> omega)))
          have k1_0v29 := (k1_0v28).st hb29
          have k1_1v29 := (k1_1v28).st hb29
          have o5_0_0v29 := (o5_0_0v28).st hb29
          have kG5v29 := (kG5v28).st hb29
          have o5_1_0v29 := (o5_1_0v28).st hb29
          have f19_0v29 := (f19_0v28).st hb29
          have k9_0v29 := (k9_0v28).st hb29
          have f20_0v29 := (f20_0v28).st hb29
          have o25_0_0v29 := (o25_0_0v28).st hb29
          have kG25v29 := (kG25v28).st hb29
          have o25_1_0v29 := (o25_1_0v28).st hb29
          clear k1_0v28 k1_1v28 o5_0_0v28 kG5v28 o5_1_0v28 f19_0v28 k9_0v28 f20_0v28 o25_0_0v28 kG25v28 o25_1_0v28
          go_wp2_with fail
          go_ret
          exact ⟨rfl, B29⟩
    · go_enter Try.func11, Try.ntmps11
      go_wp2_with fail
      ((with_reducible refine (szKeyBook_yes a0_0 a0_1 a0_2 Aa0_2 ca0_2 1048576 _ (by omega) l0_0 (by omega)).mono ?_); rintro e w1 ⟨rfl, hb1⟩)
      have s1 : w.heap.size + 2 ≤ w1.heap.size := by have := hb1.size; simpa using this
      have B1 : Below w.heap.size w w1 := ((((Below.refl w.heap.size w)).alloc (by first | omega | (simp <;> omega)) _).alloc (by first | omega | (simp <;> omega)) _).trans (hb1.mono (by first | omega | (simp <;> omega)))
      have k1_0 := ((Bk.new w _ _).alloc _).st hb1
      have k1_1 := (Bk.new2 w _ _ _).st hb1
      have xk1_1 := k1_1.lt
      have ck1_1_0 := k1_1.cell 0
      simp at ck1_1_0
      have ck1_1_1 := k1_1.cell 1
      simp at ck1_1_1
      go_wp2_with fail
      ((with_reducible refine (szSecret_no a1_0 Aa1_0 ca1_0 a1_1 Aa1_1 ca1_1 (1048576 - ((a0_2.length : Nat) : Int)) _ (by omega) l1_0 l1_1 (by omega)).mono ?_); rintro e w2 ⟨rfl, hb2⟩)
      have s2 : w1.heap.size ≤ w2.heap.size := by have := hb2.size; simpa using this
      have B2 : Below w.heap.size w w2 := (B1).trans (hb2.mono (by first | omega | (simp <;> omega)))
      have k1_0v2 := (k1_0).st hb2
      have k1_1v2 := (k1_1).st hb2
      clear k1_0 k1_1 xk1_1 ck1_1_0 ck1_1_1
      go_wp2_with fail
      go_ret
      exact ⟨rfl, B2⟩
  · go_enter Try.func11, Try.ntmps11
    go_wp2_with fail
    ((with_reducible refine (szKeyBook_no a0_0 a0_1 a0_2 Aa0_2 ca0_2 1048576 _ (by omega) l0_0 (by omega)).mono ?_); rintro e w1 ⟨rfl, hb1⟩)
    have s1 : w.heap.size + 2 ≤ w1.heap.size := by have := hb1.size; simpa using this
    have B1 : Below w.heap.size w w1 := ((((Below.refl w.heap.size w)).alloc (by first | omega | (simp <;> omega)) _).alloc (by first | omega | (simp <;> omega)) _).trans (hb1.mono (by first | omega | (simp <;> omega)))
    have k1_0 := ((Bk.new w _ _).alloc _).st hb1
    have k1_1 := (Bk.new2 w _ _ _).st hb1
    go_wp2_with fail
    go_ret
    exact ⟨rfl, B1⟩

end Go.Proofs.Ytdonggpcabkmlaa.fnExactReceiveSecret
