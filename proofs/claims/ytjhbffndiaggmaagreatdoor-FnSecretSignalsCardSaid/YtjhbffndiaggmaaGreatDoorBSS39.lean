/-
  Contracts and plain laws that the walk uses, several texts in one. The conditions are named ahead of each.
-/
import Derived.Test.YtjhbffndiaggmaaGreatDoorZSSCurK
import Derived.Test.YtjhbffndiaggmaaGreatDoorZSSCurS
import Derived.Test.YtjhbffndiaggmaaGreatDoorZSSSeText
import Derived.Test.YtjhbffndiaggmaaGreatDoorBSS38
import Derived.Deep.DeepCutAuto
import Derived.Deep.CutBlock

/-
  Contracts of the draws of FnSecretSignals. The conditions are bounds on lengths.
-/
namespace Go.Proofs.YtjhbffndiaggmaaGreatDoor
open Go.RowKit Go.ChangeShapes Go.WideShapes
set_option linter.unusedVariables false
set_option linter.unusedSimpArgs false

set_option maxRecDepth 100000 in
set_option maxHeartbeats 4000000 in
theorem drawNeededPages_any (A0 : Option Addr) (n c0 : Nat) (w : World) (hcd : CodeAt w w.heap.size A0 n) (hn : n ≤ 9223372036854775807) (hnc : n ≤ c0) :
    Calls Tryz.prog 44 #[.slice A0 n c0] w fun e w' => ∃ x : Int, e = .returned (.int .i64 x) ∧ (-1 ≤ x ∧ x ≤ 61) ∧ Below w.heap.size w w' := by
  go_enter Tryz.func44, Tryz.ntmps44
  go_wp2_with fail
  obtain ⟨w1, hw1⟩ : ∃ u, u = w.alloc (.cells #[.slice A0 n c0, .int .i64 0, .int .u64 0] 102) := ⟨_, rfl⟩
  rw [← hw1]
  have e1 : w1.heap.size = w.heap.size + 1 := by rw [hw1]; simp
  have s1 : w.heap.size + 1 ≤ w1.heap.size := by omega
  have hB : Below w.heap.size w w1 := by rw [hw1]; exact (Below.refl _ _).alloc (Nat.le_refl _) _
  have hc : Cur w1 w.heap.size 0 := by rw [hw1]; exact Cur.fresh hcd hn hnc
  replace e1 := Lib.hid e1
  clear hw1 hcd
  obtain ⟨w2, hw2⟩ : ∃ u, u = w1.alloc (.cells #[.int .i64 0, .int .i64 1, .int .i64 19, .int .i64 20, .int .i64 21, .int .i64 40, .int .i64 60, .int .i64 61, .int .i64 (-1)] 3) := ⟨_, rfl⟩
  rw [← hw2]
  have e2 : w2.heap.size = w1.heap.size + 1 := by rw [hw2]; simp
  have s2 : w1.heap.size + 1 ≤ w2.heap.size := by omega
  have b2 : Below w1.heap.size w1 w2 := by rw [hw2]; exact (Below.refl _ _).alloc (Nat.le_refl _) _
  have a2 : w1.heap.size = w.heap.size + 1 := by have h0 := e1.out; omega
  have r2 : Rd w2 (w.heap.size + 1) (w.heap.size + 1 + 1) (some ⟨w.heap.size + 1, 0, none⟩) [0, 1, 19, 20, 21, 40, 60, 61, -1] := by rw [← a2]; rw [hw2]; exact Rd.one _ _ _ _ rfl
  replace hc := hc.st b2
  replace hB := hB.trans (Below.mono b2 hB.size)
  replace e2 := Lib.hid e2
  clear b2 hw2 a2
  (with_reducible refine (among_any w.heap.size (0) [0, 1, 19, 20, 21, 40, 60, 61, -1] _ 9 _ _ hc (by omega) r2 rfl (by simp) (by simp) (by omega)).mono ?_)
  rintro e w3 ⟨x, rfl, hx, hcn, f3, z3⟩
  clear hc
  have hc := hcn
  clear hcn
  have s3 : w2.heap.size ≤ w3.heap.size := f3.size
  replace hB := hB.trans (Fr.below f3 (by omega) (by omega))
  replace r2 := r2.fr f3 (by omega)
  clear f3 z3
  have hxb : -1 ≤ x ∧ x ≤ 61 := by simp at hx; omega
  clear hx
  clear r2
  have hall := Lib.hid hB
  clear hB hc
  go_wp2_with fail
  go_ret
  exact ⟨x, rfl, hxb, hall.out⟩
set_option maxRecDepth 100000 in
set_option maxHeartbeats 8000000 in
theorem drawHideSignals_any (A0 : Option Addr) (n c0 : Nat) (w : World) (hcd : CodeAt w w.heap.size A0 n) (hn : n ≤ 9223372036854775807) (hnc : n ≤ c0) :
    Calls Tryz.prog 29 #[.slice A0 n c0] w fun e w' => ∃ (k1 p1 : Int) (us : List Int) (A : Option Addr) (c : Nat) (pg : Int) (ss : List Int) (B : Option Addr) (d : Nat), e = .returned (.tuple #[.agg #[.int .i64 k1, .int .i64 p1, .slice A us.length c], .int .i64 pg, .slice B ss.length d]) ∧ (us.length ≤ 100 ∧ ss.length ≤ 101) ∧ Rd w' w.heap.size w'.heap.size A us ∧ Rd w' w.heap.size w'.heap.size B ss ∧ Below w.heap.size w w' := by
  obtain ⟨wb, hwb⟩ : ∃ u, u = (w.alloc (.cells #[.int .i64 0, .int .i64 0, .slice none 0 0] 26)) := ⟨_, rfl⟩
  have sb : wb.heap.size = w.heap.size + 1 := by rw [hwb]; simp
  have bB : Below w.heap.size w wb := by rw [hwb]; exact (Below.refl _ _).alloc (Nat.le_refl _) _
  have bZ : Bk wb w.heap.size 26 #[.int .i64 0, .int .i64 0, .slice none 0 0] := by rw [hwb]; exact Bk.new w _ _
  have hcdb := hcd.st bB
  have hc := Cur.fresh (c := c0) hcdb hn hnc
  have hB := bB.alloc (by omega) (.cells #[.slice A0 n c0, .int .i64 0, .int .u64 0] 102)
  replace bZ := bZ.alloc (.cells #[.slice A0 n c0, .int .i64 0, .int .u64 0] 102)
  go_enter Tryz.func29, Tryz.ntmps29
  go_wp2_with fail
  rw [← hwb]
  obtain ⟨w2, hw2⟩ : ∃ u, u = wb.alloc (.cells #[.slice A0 n c0, .int .i64 0, .int .u64 0] 102) := ⟨_, rfl⟩
  have s2 : w2.heap.size = w.heap.size + 2 := by rw [hw2]; simp; omega
  rw [← hw2] at hc hB bZ ⊢
  rw [sb] at hc
  clear hw2 hwb bB hcdb hcd
  (with_reducible refine (keyBook_any (w.heap.size + 1) 0 _ hc (by omega)).mono ?_)
  rintro e w3 ⟨k1, p1, us, A, c, rfl, hpg, hus, ou, hcn, fa⟩
  have s3 := fa.size
  replace bZ := bZ.fr fa (by omega)
  replace hB := hB.trans (fa.below (B := w.heap.size) (by omega) (by omega))
  have ru := ou.rd'.mono (show w.heap.size + 2 ≤ _ by omega) (Nat.le_refl _)
  clear hc fa ou
  have hc := hcn
  clear hcn
  obtain ⟨w4, hw4⟩ : ∃ u, u = w3.alloc (.cells #[.int .i64 k1, .int .i64 p1, .slice A us.length c] 26) := ⟨_, rfl⟩
  have s4 : w4.heap.size = w3.heap.size + 1 := by rw [hw4]; simp
  have bk : Bk w4 w3.heap.size 26 #[.int .i64 k1, .int .i64 p1, .slice A us.length c] := by rw [hw4]; exact Bk.new w3 _ _
  replace bZ : Bk w4 w.heap.size 26 #[.int .i64 0, .int .i64 0, .slice none 0 0] := by rw [hw4]; exact bZ.alloc _
  replace hc : Cur w4 (w.heap.size + 1) (0 + 300) := by rw [hw4]; exact hc.alloc _
  replace hB : Below w.heap.size w w4 := by rw [hw4]; exact hB.alloc (by omega) _
  replace ru : Rd w4 (w.heap.size + 2) w3.heap.size A us := by rw [hw4]; exact ru.alloc _
  have s4H := Lib.hid s4
  have s3b : w.heap.size + 2 ≤ w3.heap.size := by omega
  obtain ⟨H3, hH3⟩ : ∃ n, n = w3.heap.size := ⟨_, rfl⟩
  have hw4H := Lib.hid hw4
  go_upto_region 3 with fail
  rw [← hw4]
  rw [← hH3] at bk ru s3b s4H ⊢
  have s4b : H3 + 1 ≤ w4.heap.size := by have := s4H.out; omega
  clear hw4 hw4H hH3 s4 s4H
  have y0 := bk.cell 0
  have y1 := bk.cell 1
  have y2 := bk.cell 2
  have yf0 := bk.frozen 0
  have yf1 := bk.frozen 1
  have yf2 := bk.frozen 2
  simp at y0 y1 y2
  have yl := bk.lt
  have t0 := bZ.cell 0
  have t1 := bZ.cell 1
  have t2 := bZ.cell 2
  have tf0 := bZ.frozen 0
  have tf1 := bZ.frozen 1
  have tf2 := bZ.frozen 2
  simp at t0 t1 t2
  have tl := bZ.lt
  have hcd0 := hc.drew
  have bk0 := bk.drew
  have bZ0 := bZ.drew
  have hB0 := hB.drew
  have ru0 := ru.drew
  have bkH := Lib.hid bk0
  have bZH := Lib.hid bZ0
  have hBH := Lib.hid hB0
  have ruH := Lib.hid ru0
  clear hc bk bZ hB ru bk0 bZ0 hB0 ru0
  go_region_law (first
    | (go_simp; (go_at_call 107; ((with_reducible refine (keyPageOf_any (w.heap.size + 1) (0 + 300) k1 p1 A us.length c _ hcd0 (by omega) hpg).mono ?_); rintro e w5 ⟨pg, rfl, hc5, f5⟩); (have s5 : w4.heap.size ≤ w5.heap.size := f5.size); (have mK := bkH.out.fr f5 (by omega)); (have qK := bZH.out.fr f5 (by omega)); (have m0 := mK.cell 0); (have me0 := mK.frozen 0); (have q0 := qK.cell 0); (have qf0 := qK.frozen 0); (have m1 := mK.cell 1); (have me1 := mK.frozen 1); (have q1 := qK.cell 1); (have qf1 := qK.frozen 1); (have m2 := mK.cell 2); (have me2 := mK.frozen 2); (have q2 := qK.cell 2); (have qf2 := qK.frozen 2); (simp at m0 m1 m2 q0 q1 q2); (have ml := mK.lt); (have ql := qK.lt)))
    | (go_simp; (go_at_call 108; ((with_reducible refine (clearSignals_any (w.heap.size + 1) (0 + 300 + 6) 20 _ hc5 (by omega) (by omega)).mono ?_); rintro e w6 ⟨ss, B, d, rfl, hss, os, hc6, f6⟩); (have s6 : w5.heap.size ≤ w6.heap.size := f6.size); (have vK := mK.fr f6 (by omega)); (have xK := qK.fr f6 (by omega)); (have v0 := vK.cell 0); (have ve0 := vK.frozen 0); (have x0 := xK.cell 0); (have xf0 := xK.frozen 0); (have v1 := vK.cell 1); (have ve1 := vK.frozen 1); (have x1 := xK.cell 1); (have xf1 := xK.frozen 1); (have v2 := vK.cell 2); (have ve2 := vK.frozen 2); (have x2 := xK.cell 2); (have xf2 := xK.frozen 2); (simp at v0 v1 v2 x0 x1 x2); (have vl := vK.lt); (have xl := xK.lt))))
  all_goals
    have hB5 := hBH.out.trans (f5.below (B := w.heap.size) (by omega) (by show w.heap.size ≤ w4.heap.size; omega))
    have hB6 := hB5.trans (f6.below (B := w.heap.size) (by omega) (by omega))
    have ru6 := (ruH.out.fr f5 (by omega)).fr f6 (by omega)
    have ho := Lib.hid (And.intro (ru6.set3 (q := w.heap.size) (by omega) (.int .i64 k1) (.int .i64 p1) (.slice A us.length c)) (And.intro ((os.rd'.mono (show w.heap.size + 2 ≤ _ by omega) (Nat.le_refl _)).set3 (q := w.heap.size) (by omega) (.int .i64 k1) (.int .i64 p1) (.slice A us.length c)) (below_set3 (q := w.heap.size) hB6 (Nat.le_refl _) (.int .i64 k1) (.int .i64 p1) (.slice A us.length c))))
    clear hB5 hB6 ru6 os hc6 f6 f5 hc5 mK qK vK xK
    go_wp2_with fail
    refine bodyPost_ret (v := .tuple #[.agg #[.int .i64 k1, .int .i64 p1, .slice A us.length c], .int .i64 pg, .slice B ss.length d]) (by simp [results, Tryz.results29, go_sem, x0, x1, x2]) rfl ?_
    exact ⟨k1, p1, us, A, c, pg, ss, B, d, rfl, ⟨hus, hss⟩, ho.out.1.top.mono (by omega) (Nat.le_refl _), ho.out.2.1.top.mono (by omega) (Nat.le_refl _), ho.out.2.2⟩
set_option maxRecDepth 100000 in
set_option maxHeartbeats 4000000 in
theorem drawShowSignals_any (A0 : Option Addr) (n c0 : Nat) (w : World) (hcd : CodeAt w w.heap.size A0 n) (hn : n ≤ 9223372036854775807) (hnc : n ≤ c0) :
    Calls Tryz.prog 32 #[.slice A0 n c0] w fun e w' => ∃ (k1 p1 : Int) (us : List Int) (A : Option Addr) (c : Nat) (pg : Int) (ss : List Int) (B : Option Addr) (d : Nat), e = .returned (.tuple #[.agg #[.int .i64 k1, .int .i64 p1, .slice A us.length c], .int .i64 pg, .slice B ss.length d]) ∧ (us.length ≤ 100 ∧ ss.length ≤ 101) ∧ Rd w' w.heap.size w'.heap.size A us ∧ Rd w' w.heap.size w'.heap.size B ss ∧ Below w.heap.size w w' := by
  obtain ⟨wb, hwb⟩ : ∃ u, u = (w.alloc (.cells #[.int .i64 0, .int .i64 0, .slice none 0 0] 26)) := ⟨_, rfl⟩
  have sb : wb.heap.size = w.heap.size + 1 := by rw [hwb]; simp
  have bB : Below w.heap.size w wb := by rw [hwb]; exact (Below.refl _ _).alloc (Nat.le_refl _) _
  have bZ : Bk wb w.heap.size 26 #[.int .i64 0, .int .i64 0, .slice none 0 0] := by rw [hwb]; exact Bk.new w _ _
  have hcdb := hcd.st bB
  go_enter Tryz.func32, Tryz.ntmps32
  go_wp2_with fail
  rw [← hwb]
  (with_reducible refine (drawHideSignals_any A0 n c0 wb hcdb hn hnc).mono ?_)
  rintro e w3 ⟨k1, p1, us, A, c, pg, ss, B, d, rfl, hus, ru, rs, hb⟩
  have s3 := hb.size
  replace bZ := bZ.st hb
  have hB := bB.trans (hb.mono (by omega))
  clear hb bB hcdb hcd hwb
  have z0 := bZ.cell 0
  have z1 := bZ.cell 1
  have z2 := bZ.cell 2
  have zf0 := bZ.frozen 0
  have zf1 := bZ.frozen 1
  have zf2 := bZ.frozen 2
  simp at z0 z1 z2
  have zl := bZ.lt
  have ho := Lib.hid (And.intro (ru.set3 (q := w.heap.size) (by omega) (.int .i64 k1) (.int .i64 p1) (.slice A us.length c)) (And.intro (rs.set3 (q := w.heap.size) (by omega) (.int .i64 k1) (.int .i64 p1) (.slice A us.length c)) (below_set3 (q := w.heap.size) hB (Nat.le_refl _) (.int .i64 k1) (.int .i64 p1) (.slice A us.length c))))
  clear bZ ru rs hB
  go_wp2_with fail
  refine bodyPost_ret (v := .tuple #[.agg #[.int .i64 k1, .int .i64 p1, .slice A us.length c], .int .i64 pg, .slice B ss.length d]) (by simp [results, Tryz.results32, go_sem, z0, z1, z2]) rfl ?_
  exact ⟨k1, p1, us, A, c, pg, ss, B, d, rfl, hus, ho.out.1.top.mono (by omega) (Nat.le_refl _), ho.out.2.1.top.mono (by omega) (Nat.le_refl _), ho.out.2.2⟩
set_option maxRecDepth 100000 in
set_option maxHeartbeats 4000000 in
theorem drawIsSecret_any (A0 : Option Addr) (n c0 : Nat) (w : World) (hcd : CodeAt w w.heap.size A0 n) (hn : n ≤ 9223372036854775807) (hnc : n ≤ c0) :
    Calls Tryz.prog 119 #[.slice A0 n c0] w fun e w' => ∃ (P S : List Int) (B : Option Addr) (d : Nat) (C : Option Addr) (f : Nat), e = .returned (.agg #[.slice B P.length d, .slice C S.length f]) ∧ (P.length ≤ 61 ∧ S.length ≤ 61 ∧ P.length ≤ d ∧ S.length ≤ f) ∧ Rd w' w.heap.size w'.heap.size B P ∧ Rd w' w.heap.size w'.heap.size C S ∧ Below w.heap.size w w' := by
  obtain ⟨wb, hwb⟩ : ∃ u, u = (w.alloc (.cells #[.slice none 0 0, .slice none 0 0] 53)) := ⟨_, rfl⟩
  have sb : wb.heap.size = w.heap.size + 1 := by rw [hwb]; simp
  have bB : Below w.heap.size w wb := by rw [hwb]; exact (Below.refl _ _).alloc (Nat.le_refl _) _
  have bZ : Bk wb w.heap.size 53 #[.slice none 0 0, .slice none 0 0] := by rw [hwb]; exact Bk.new w _ _
  have hcdb := hcd.st bB
  have hc := Cur.fresh (c := c0) hcdb hn hnc
  have hB := bB.alloc (by omega) (.cells #[.slice A0 n c0, .int .i64 0, .int .u64 0] 102)
  replace bZ := bZ.alloc (.cells #[.slice A0 n c0, .int .i64 0, .int .u64 0] 102)
  go_enter Tryz.func119, Tryz.ntmps119
  go_wp2_with fail
  rw [← hwb]
  obtain ⟨w2, hw2⟩ : ∃ u, u = wb.alloc (.cells #[.slice A0 n c0, .int .i64 0, .int .u64 0] 102) := ⟨_, rfl⟩
  have s2 : w2.heap.size = w.heap.size + 2 := by rw [hw2]; simp; omega
  rw [← hw2] at hc hB bZ ⊢
  rw [sb] at hc
  clear hw2 hwb bB hcdb hcd
  (with_reducible refine (secret_any (w.heap.size + 1) 0 _ hc (by omega)).mono ?_)
  rintro e w3 ⟨key, pages, us, P, S, A, c, B, d, C, f, lu, hu, rfl, ⟨a1, a2, a3, a4, a5⟩, -, rP, rS, -, hcn, fa⟩
  have s3 := fa.size
  replace bZ := bZ.fr fa (by omega)
  replace hB := hB.trans (fa.below (B := w.heap.size) (by omega) (by omega))
  replace rP := rP.mono (show w.heap.size + 1 ≤ _ by omega) (Nat.le_refl _)
  replace rS := rS.mono (show w.heap.size + 1 ≤ _ by omega) (Nat.le_refl _)
  clear hc hcn fa
  obtain ⟨w4, hw4⟩ : ∃ u, u = (w3.alloc (.cells #[.int .i64 key, .int .i64 pages, .slice A us.length c] 26)).alloc (.cells #[.slice B P.length d, .slice C S.length f] 53) := ⟨_, rfl⟩
  replace bZ : Bk w4 w.heap.size 53 #[.slice none 0 0, .slice none 0 0] := by rw [hw4]; exact (bZ.alloc _).alloc _
  replace hB : Below w.heap.size w w4 := by rw [hw4]; exact (hB.alloc (by omega) _).alloc (by simp; omega) _
  replace rP : Rd w4 (w.heap.size + 1) w3.heap.size B P := by rw [hw4]; exact (rP.alloc _).alloc _
  replace rS : Rd w4 (w.heap.size + 1) w3.heap.size C S := by rw [hw4]; exact (rS.alloc _).alloc _
  rw [hw4] at bZ
  have z0 := bZ.cell 0
  have z1 := bZ.cell 1
  have zf0 := bZ.frozen 0
  have zf1 := bZ.frozen 1
  simp at z0 z1
  have zl := bZ.lt
  have ho := Lib.hid (And.intro ((rP.setAny (p := ⟨w.heap.size, 0, none⟩) (by dsimp only; omega) (.slice B P.length d)).setAny (p := ⟨w.heap.size, 1, none⟩) (by dsimp only; omega) (.slice C S.length f)) (And.intro ((rS.setAny (p := ⟨w.heap.size, 0, none⟩) (by dsimp only; omega) (.slice B P.length d)).setAny (p := ⟨w.heap.size, 1, none⟩) (by dsimp only; omega) (.slice C S.length f)) ((hB.setCell (p := ⟨w.heap.size, 0, none⟩) (Nat.le_refl _) (.slice B P.length d)).setCell (p := ⟨w.heap.size, 1, none⟩) (Nat.le_refl _) (.slice C S.length f))))
  rw [hw4] at ho
  clear bZ rP rS hB hw4
  go_wp2_with fail
  refine bodyPost_ret (v := .agg #[.slice B P.length d, .slice C S.length f]) (by simp [results, Tryz.results119, go_sem, z0, z1]) rfl ?_
  exact ⟨P, S, B, d, C, f, rfl, ⟨a2, a3, a4, a5⟩, ho.out.1.top.mono (by omega) (Nat.le_refl _), ho.out.2.1.top.mono (by omega) (Nat.le_refl _), ho.out.2.2⟩
set_option maxRecDepth 100000 in
set_option maxHeartbeats 4000000 in
theorem drawSecretText_any (A0 : Option Addr) (n c0 : Nat) (w : World) (hcd : CodeAt w w.heap.size A0 n) (hn : n ≤ 9223372036854775807) (hnc : n ≤ c0) :
    Calls Tryz.prog 38 #[.slice A0 n c0] w fun e w' => ∃ (P S : List Int) (B : Option Addr) (d : Nat) (C : Option Addr) (f : Nat), e = .returned (.agg #[.slice B P.length d, .slice C S.length f]) ∧ (P.length ≤ 61 ∧ S.length ≤ 61 ∧ P.length ≤ d ∧ S.length ≤ f) ∧ Rd w' w.heap.size w'.heap.size B P ∧ Rd w' w.heap.size w'.heap.size C S ∧ Below w.heap.size w w' := by
  obtain ⟨wb, hwb⟩ : ∃ u, u = (w.alloc (.cells #[.slice none 0 0, .slice none 0 0] 53)) := ⟨_, rfl⟩
  have sb : wb.heap.size = w.heap.size + 1 := by rw [hwb]; simp
  have bB : Below w.heap.size w wb := by rw [hwb]; exact (Below.refl _ _).alloc (Nat.le_refl _) _
  have bZ : Bk wb w.heap.size 53 #[.slice none 0 0, .slice none 0 0] := by rw [hwb]; exact Bk.new w _ _
  have hcdb := hcd.st bB
  go_enter Tryz.func38, Tryz.ntmps38
  go_wp2_with fail
  rw [← hwb]
  (with_reducible refine (drawIsSecret_any A0 n c0 wb hcdb hn hnc).mono ?_)
  rintro e w3 ⟨P, S, B, d, C, f, rfl, hl, rP, rS, hb⟩
  have s3 := hb.size
  replace bZ := bZ.st hb
  have hB := bB.trans (hb.mono (by omega))
  clear hb bB hcdb hcd hwb
  have z0 := bZ.cell 0
  have z1 := bZ.cell 1
  have zf0 := bZ.frozen 0
  have zf1 := bZ.frozen 1
  simp at z0 z1
  have zl := bZ.lt
  have ho := Lib.hid (And.intro ((rP.setAny (p := ⟨w.heap.size, 0, none⟩) (by dsimp only; omega) (.slice B P.length d)).setAny (p := ⟨w.heap.size, 1, none⟩) (by dsimp only; omega) (.slice C S.length f)) (And.intro ((rS.setAny (p := ⟨w.heap.size, 0, none⟩) (by dsimp only; omega) (.slice B P.length d)).setAny (p := ⟨w.heap.size, 1, none⟩) (by dsimp only; omega) (.slice C S.length f)) ((hB.setCell (p := ⟨w.heap.size, 0, none⟩) (Nat.le_refl _) (.slice B P.length d)).setCell (p := ⟨w.heap.size, 1, none⟩) (Nat.le_refl _) (.slice C S.length f))))
  clear bZ rP rS hB
  go_wp2_with fail
  refine bodyPost_ret (v := .agg #[.slice B P.length d, .slice C S.length f]) (by simp [results, Tryz.results38, go_sem, z0, z1]) rfl ?_
  exact ⟨P, S, B, d, C, f, rfl, hl, ho.out.1.top.mono (by omega) (Nat.le_refl _), ho.out.2.1.top.mono (by omega) (Nat.le_refl _), ho.out.2.2⟩
set_option maxRecDepth 100000 in
set_option maxHeartbeats 8000000 in
theorem drawParseSecret_any (A0 : Option Addr) (n c0 : Nat) (w : World) (hcd : CodeAt w w.heap.size A0 n) (hn : n ≤ 9223372036854775807) (hnc : n ≤ c0) :
    Calls Tryz.prog 41 #[.slice A0 n c0] w fun e w' => ∃ t : ByteArray, e = .returned (.string t) ∧ t.size ≤ 1000100 ∧ Below w.heap.size w w' := by
  obtain ⟨w1, hw1⟩ : ∃ u, u = w.alloc (.cells #[.slice A0 n c0, .int .i64 0, .int .u64 0] 102) := ⟨_, rfl⟩
  have hc : Cur w1 w.heap.size 0 := by rw [hw1]; exact Cur.fresh (c := c0) hcd hn hnc
  have hB : Below w.heap.size w w1 := by rw [hw1]; exact (Below.refl _ _).alloc (Nat.le_refl _) _
  have s1 : w1.heap.size = w.heap.size + 1 := by rw [hw1]; simp
  go_enter Tryz.func41, Tryz.ntmps41
  go_wp2_with fail
  rw [← hw1]
  clear hw1 hcd
  (with_reducible refine (secret_any w.heap.size 0 _ hc (by omega)).mono ?_)
  rintro e w2 ⟨key, pages, us, P, S, A, c, B, d, C, f, lu, hu, rfl, ⟨a1, a2, a3, a4, a5⟩, -, rP, rS, -, hcn, fa⟩
  have s2 := fa.size
  replace hB := hB.trans (fa.below (B := w.heap.size) (by omega) (by omega))
  clear hc fa
  have hc := hcn
  clear hcn
  go_wp2_with fail
  obtain ⟨w3, hw3⟩ : ∃ u, u = w2.alloc (.cells #[.int .i64 key, .int .i64 pages, .slice A us.length c] 26) := ⟨_, rfl⟩
  rw [← hw3]
  have e3 : w3.heap.size = w2.heap.size + 1 := by rw [hw3]; simp
  have s3 : w2.heap.size + 1 ≤ w3.heap.size := by omega
  have b3 : Below w2.heap.size w2 w3 := by rw [hw3]; exact (Below.refl _ _).alloc (Nat.le_refl _) _
  replace hc := hc.st b3
  replace hB := hB.trans (Below.mono b3 hB.size)
  replace rP := rP.st b3
  replace rS := rS.st b3
  replace e3 := Lib.hid e3
  clear b3 hw3
  obtain ⟨w4, hw4⟩ : ∃ u, u = w3.alloc (.cells #[.slice B P.length d, .slice C S.length f] 53) := ⟨_, rfl⟩
  rw [← hw4]
  have e4 : w4.heap.size = w3.heap.size + 1 := by rw [hw4]; simp
  have s4 : w3.heap.size + 1 ≤ w4.heap.size := by omega
  have b4 : Below w3.heap.size w3 w4 := by rw [hw4]; exact (Below.refl _ _).alloc (Nat.le_refl _) _
  have a4 : w3.heap.size = w2.heap.size + 1 := by have h0 := e3.out; omega
  have bk : Bk w4 (w2.heap.size + 1) 53 #[.slice B P.length d, .slice C S.length f] := by rw [← a4]; rw [hw4]; exact Bk.new _ _ _
  replace hc := hc.st b4
  replace hB := hB.trans (Below.mono b4 hB.size)
  replace rP := rP.st b4
  replace rS := rS.st b4
  replace e4 := Lib.hid e4
  clear b4 hw4 a4
  obtain ⟨v, hv⟩ : ∃ v, scB P S = v := ⟨_, rfl⟩
  have hvH := Lib.hid hv
  clear hv
  (with_reducible refine (scGood_wt P B d S C f _ rP rS (by omega) (by omega) a4 v hvH.out).mono ?_)
  rintro e w5 ⟨rfl, b5⟩
  have s5 : w4.heap.size ≤ w5.heap.size := b5.size
  replace hc := hc.st b5
  replace hB := hB.trans (Below.mono b5 hB.size)
  replace rP := rP.st b5
  replace rS := rS.st b5
  replace bk := bk.st b5
  clear b5
  cases v with
  | false =>
    obtain ⟨o, ho⟩ : ∃ o, o = Obj.cells #[.string { data := #[] }, .string { data := #[58] }, .string { data := #[48, 58] }, .string { data := #[58, 53] }, .string { data := #[48, 58, 53] }, .string { data := #[48, 48, 58, 53] }, .string { data := #[48, 43, 48, 58, 53] }, .string { data := #[54, 48, 58, 53] }] 9 (0, 0) := ⟨_, rfl⟩
    have rt : RdT (w5.alloc o) w5.heap.size (w5.heap.size + 1) (some ⟨w5.heap.size, 0, none⟩) 8 40 := by rw [ho]; exact RdT.new _ _ #[.string { data := #[] }, .string { data := #[58] }, .string { data := #[48, 58] }, .string { data := #[58, 53] }, .string { data := #[48, 58, 53] }, .string { data := #[48, 48, 58, 53] }, .string { data := #[48, 43, 48, 58, 53] }, .string { data := #[54, 48, 58, 53] }] 40 (by kernel_rfl)
    replace hc := hc.alloc o
    replace hB := hB.alloc (by omega) o
    have so : (w5.alloc o).heap.size = w5.heap.size + 1 := by simp
    have soH := Lib.hid so
    clear so rP rS bk
    go_wp2_with fail
    rw [← ho]
    clear ho
    (with_reducible refine (of_any w.heap.size _ 8 40 _ _ _ hc (by omega) rt (by omega) (by omega) (.inr (by omega))).mono ?_)
    rintro e w9 ⟨t, rfl, ht, -, fa⟩
    have hfin := Lib.hid (hB.trans (fa.below (B := w.heap.size) (by omega) (by have := soH.out; omega)))
    clear hB hc rt fa
    go_wp2_with fail
    go_ret
    exact ⟨t, rfl, by omega, hfin.out⟩
  | true =>
    have xl := bk.lt
    have x0 := bk.cell 0
    have x1 := bk.cell 1
    simp at x0 x1
    have hkl : (sb P S).length ≤ 1000000 := by have h := st_len P S; rwa [stL_yes hvH.out] at h
    go_wp2_with fail
    clear xl x0 x1
    (with_reducible refine (scText_any P S B d C f _ rP rS (by omega) hvH.out).mono ?_)
    rintro e w6 ⟨rfl, b6⟩
    have s6 : w5.heap.size ≤ w6.heap.size := b6.size
    replace hc := hc.st b6
    replace hB := hB.trans (Below.mono b6 hB.size)
    replace rP := rP.st b6
    replace rS := rS.st b6
    replace bk := bk.st b6
    clear b6
    obtain ⟨t0, ht0⟩ : ∃ t, t = str (sb P S) := ⟨_, rfl⟩
    have htl : t0.size ≤ 1000000 := by rw [ht0, str_size]; exact hkl
    rw [← ht0]
    clear ht0 hkl rP rS bk hvH
    go_wp2_with fail
    (with_reducible refine (one_any w.heap.size _ 3 _ hc (by omega) (by omega)).mono ?_)
    rintro e w7 ⟨v, rfl, hcn, f7, z7⟩
    clear hc
    have hc := hcn
    clear hcn
    have s7 : w6.heap.size ≤ w7.heap.size := f7.size
    replace hB := hB.trans (Fr.below f7 (by omega) (by omega))
    clear f7 z7
    cases v with
    | false =>
      have hfin := Lib.hid hB
      clear hB hc
      go_wp2_with fail
      go_ret
      exact ⟨t0, rfl, by omega, hfin.out⟩
    | true =>
      go_wp2_with fail
      (with_reducible refine (spoilt_any w.heap.size _ t0 _ _ hc (by omega) (by omega) (by decide) (by decide)).mono ?_)
      rintro e w9 ⟨t, rfl, ht, -, fa⟩
      have hfin := Lib.hid (hB.trans (fa.below (B := w.heap.size) (by omega) (by omega)))
      clear hB hc fa
      go_wp2_with fail
      go_ret
      exact ⟨t, rfl, by omega, hfin.out⟩
end Go.Proofs.YtjhbffndiaggmaaGreatDoor

/-
  The contract of DrawChangedPlaces. The conditions are bounds on lengths.
-/
namespace Go.Proofs.YtjhbffndiaggmaaGreatDoor
open Go.RowKit Go.ChangeShapes Go.WideShapes
set_option linter.unusedVariables false
set_option linter.unusedSimpArgs false

/-- what the drawing of two secrets holds: the boxes of the results, the first secret, the cursor -/
structure CpL (w0 : World) (M L H6 : Nat) (P S : List Int) (B C : Option Addr) (d f : Nat) (wq : World) : Prop where
  bZ : Bk wq w0.heap.size 53 #[.slice none 0 0, .slice none 0 0]
  bY : Bk wq (w0.heap.size + 1) 53 #[.slice none 0 0, .slice none 0 0]
  bX : Bk wq H6 53 #[.slice B P.length d, .slice C S.length f]
  rP : Rd wq L H6 B P
  rS : Rd wq L H6 C S
  cur : Cur wq (w0.heap.size + 2) M
  bel : Below w0.heap.size w0 wq
  num : w0.heap.size + 3 ≤ L ∧ L ≤ H6 ∧ H6 < wq.heap.size
section
variable {w0 wq w' : World} {M L H6 : Nat} {P S : List Int} {B C : Option Addr} {d f : Nat}
theorem CpL.frc {M' : Nat} (h : CpL w0 M L H6 P S B C d f wq) (hf : Fr (w0.heap.size + 2) (w0.heap.size + 2 + 1) wq w') (hc : Cur w' (w0.heap.size + 2) M') : CpL w0 M' L H6 P S B C d f w' := by
  have hn := h.num
  have hs := hf.size
  exact ⟨h.bZ.fr hf (by omega), h.bY.fr hf (by omega), h.bX.fr hf (by omega), h.rP.fr hf (by omega), h.rS.fr hf (by omega), hc, h.bel.trans (hf.below (by omega) (by omega)), by omega⟩
theorem CpL.drew (h : CpL w0 M L H6 P S B C d f wq) : CpL w0 M L H6 P S B C d f wq.drew := ⟨h.bZ, h.bY, h.bX, h.rP, h.rS, h.cur, h.bel.drew, h.num⟩
theorem CpL.le {M' : Nat} (h : CpL w0 M L H6 P S B C d f wq) (hM : M ≤ M') : CpL w0 M' L H6 P S B C d f wq := { h with cur := h.cur.le hM }
theorem CpL.low {N : Nat} (h : CpL w0 M L H6 P S B C d f wq) (hb : Below N wq w') (hB : H6 < N) : CpL w0 M L H6 P S B C d f w' := by
  have hn := h.num
  have hs := hb.size
  exact ⟨h.bZ.below hb (by omega), h.bY.below hb (by omega), h.bX.below hb hB, h.rP.below hb (by omega), h.rS.below hb (by omega), h.cur.below hb (by omega), h.bel.trans (hb.mono (by omega)), by omega⟩
theorem CpL.st (h : CpL w0 M L H6 P S B C d f wq) (hb : Below wq.heap.size wq w') : CpL w0 M L H6 P S B C d f w' := h.low hb h.num.2.2
theorem CpL.alloc (h : CpL w0 M L H6 P S B C d f wq) (o : Obj) : CpL w0 M L H6 P S B C d f (wq.alloc o) := h.st ((Below.refl _ _).alloc (Nat.le_refl _) o)
theorem CpL.high (h : CpL w0 M L H6 P S B C d f wq) {p : Addr} (hp : H6 < p.block) (u : Value) : CpL w0 M L H6 P S B C d f (wq.setCell p u) := h.low ((Below.refl (H6 + 1) wq).setCell (by omega) u) (Nat.lt_succ_self _)
theorem set22 (h : CpL w0 M L H6 P S B C d f wq) {lo hi : Nat} {E : Option Addr} {zs : List Int} (hr : Rd wq lo hi E zs) (h1 : w0.heap.size + 2 ≤ lo) (x y z u : Value) :
    Rd ((((wq.setCell ⟨w0.heap.size, 0, none⟩ x).setCell ⟨w0.heap.size, 1, none⟩ y).setCell ⟨w0.heap.size + 1, 0, none⟩ z).setCell ⟨w0.heap.size + 1, 1, none⟩ u) lo hi E zs :=
  (((hr.setAny (by dsimp only; omega) x).setAny (by dsimp only; omega) y).setAny (by dsimp only; omega) z).setAny (by dsimp only; omega) u
theorem CpL.put (h : CpL w0 M L H6 P S B C d f wq) (x y z u : Value) :
    Below w0.heap.size w0 ((((wq.setCell ⟨w0.heap.size, 0, none⟩ x).setCell ⟨w0.heap.size, 1, none⟩ y).setCell ⟨w0.heap.size + 1, 0, none⟩ z).setCell ⟨w0.heap.size + 1, 1, none⟩ u) :=
  (((h.bel.setCell (by dsimp only; omega) x).setCell (by dsimp only; omega) y).setCell (by dsimp only; omega) z).setCell (by dsimp only; omega) u
end
set_option maxRecDepth 100000 in
set_option maxHeartbeats 16000000 in
theorem drawChangedPlaces_any (A0 : Option Addr) (n c0 : Nat) (w : World) (hcd : CodeAt w w.heap.size A0 n) (hn : n ≤ 9223372036854775807) (hnc : n ≤ c0) :
    Calls Tryz.prog 35 #[.slice A0 n c0] w fun e w' => ∃ (P S : List Int) (B : Option Addr) (d : Nat) (C : Option Addr) (f : Nat) (P2 S2 : List Int) (B2 : Option Addr) (d2 : Nat) (C2 : Option Addr) (f2 : Nat), e = .returned (.tuple #[.agg #[.slice B P.length d, .slice C S.length f], .agg #[.slice B2 P2.length d2, .slice C2 S2.length f2]]) ∧ (P.length ≤ 61 ∧ S.length ≤ 61 ∧ P.length ≤ d ∧ S.length ≤ f) ∧ (P2.length ≤ 61 ∧ S2.length ≤ 61 ∧ P2.length ≤ d2 ∧ S2.length ≤ f2) ∧ Rd w' 0 w'.heap.size B P ∧ Rd w' 0 w'.heap.size C S ∧ Rd w' 0 w'.heap.size B2 P2 ∧ Rd w' 0 w'.heap.size C2 S2 ∧ Below w.heap.size w w' := by
  obtain ⟨wb, hwb⟩ : ∃ u, u = ((w.alloc (.cells #[.slice none 0 0, .slice none 0 0] 53)).alloc (.cells #[.slice none 0 0, .slice none 0 0] 53)) := ⟨_, rfl⟩
  have sb : wb.heap.size = w.heap.size + 2 := by rw [hwb]; simp
  have bB : Below w.heap.size w wb := by rw [hwb]; exact ((Below.refl _ _).alloc (Nat.le_refl _) _).alloc (by simp) _
  have bZ : Bk wb w.heap.size 53 #[.slice none 0 0, .slice none 0 0] := by rw [hwb]; exact (Bk.new w _ _).alloc _
  have bY : Bk wb (w.heap.size + 1) 53 #[.slice none 0 0, .slice none 0 0] := by rw [hwb]; exact Bk.new2 w _ _ _
  have hcdb := hcd.st bB
  have hc := Cur.fresh (c := c0) hcdb hn hnc
  have hB := bB.alloc (by omega) (.cells #[.slice A0 n c0, .int .i64 0, .int .u64 0] 102)
  replace bZ := bZ.alloc (.cells #[.slice A0 n c0, .int .i64 0, .int .u64 0] 102)
  replace bY := bY.alloc (.cells #[.slice A0 n c0, .int .i64 0, .int .u64 0] 102)
  go_enter Tryz.func35, Tryz.ntmps35
  go_wp2_with fail
  rw [← hwb]
  obtain ⟨w2, hw2⟩ : ∃ u, u = wb.alloc (.cells #[.slice A0 n c0, .int .i64 0, .int .u64 0] 102) := ⟨_, rfl⟩
  have s2 : w2.heap.size = w.heap.size + 3 := by rw [hw2]; simp; omega
  rw [← hw2] at hc hB bZ bY ⊢
  rw [sb] at hc
  clear hw2 hwb bB hcdb hcd
  (with_reducible refine (secret_any (w.heap.size + 2) 0 _ hc (by omega)).mono ?_)
  rintro e w3 ⟨key, pages, us, P, S, A, c, B, d, C, f, lu, hu, rfl, ⟨a1, a2, a3, a4, a5⟩, -, rP, rS, -, hcn, fa⟩
  have s3 := fa.size
  clear hc
  obtain ⟨w5, hw5⟩ : ∃ u, u = (w3.alloc (.cells #[.int .i64 key, .int .i64 pages, .slice A us.length c] 26)).alloc (.cells #[.slice B P.length d, .slice C S.length f] 53) := ⟨_, rfl⟩
  have s5 : w5.heap.size = w3.heap.size + 2 := by rw [hw5]; simp
  have hx : CpL w (0 + 600) (w.heap.size + 3) (w3.heap.size + 1) P S B C d f w5 := by
    rw [hw5]
    exact ⟨((bZ.fr fa (by omega)).alloc _).alloc _, ((bY.fr fa (by omega)).alloc _).alloc _, Bk.new2 w3 _ _ _, (((rP.mono (show w.heap.size + 3 ≤ _ by omega) (show _ ≤ w3.heap.size + 1 by omega)).alloc _).alloc _), (((rS.mono (show w.heap.size + 3 ≤ _ by omega) (show _ ≤ w3.heap.size + 1 by omega)).alloc _).alloc _), (hcn.alloc _).alloc _, ((hB.trans (fa.below (B := w.heap.size) (by omega) (by omega))).alloc (by omega) _).alloc (by simp; omega) _, by simp; omega⟩
  clear bZ bY hB rP rS hcn fa
  have s5H := Lib.hid s5
  go_upto_region 3 with fail
  rw [← hw5]
  obtain ⟨L, hL⟩ : ∃ n, n = w.heap.size + 3 := ⟨_, rfl⟩
  obtain ⟨H6, hH6⟩ : ∃ n, n = w3.heap.size + 1 := ⟨_, rfl⟩
  rw [← hL, ← hH6] at hx
  rw [← hH6]
  have hLH := Lib.hid hL
  have hs6 : H6 + 1 ≤ w5.heap.size := by omega
  have hl3 : w.heap.size + 3 ≤ H6 := by omega
  clear hw5 s5 hL hH6 s5H s3 s2 sb
  go_cut [7] (fun s wq => ∃ (H7 l6 m l7 h7 : Nat) (B6 : Option Addr) (d6 : Nat) (C7 : Option Addr) (f7 : Nat), s = .pointer (some ⟨H7, 0, none⟩) ∧ Bk wq H7 53 #[.slice B6 P.length d6, .slice C7 S.length f7] ∧ Rd wq l6 m B6 P ∧ P.length ≤ d6 ∧ Own wq l7 h7 (.slice C7 S.length f7) S ∧ CpL w (0 + 600) L H6 P S B C d f wq ∧ (H6 < H7 ∧ H6 < l6 ∧ H6 < l7 ∧ m ≤ l7 ∧ (H7 < l7 ∨ h7 ≤ H7)) ∧ H7 < wq.heap.size)
  case first =>
    have y0 := hx.bX.cell 0
    have y1 := hx.bX.cell 1
    have yf0 := hx.bX.frozen 0
    have yf1 := hx.bX.frozen 1
    simp at y0 y1
    have yl := hx.bX.lt
    have hxd := Lib.hid hx.drew
    have hxa := Lib.hid (hx.alloc (.cells #[.slice none 0 0, .slice none 0 0] 53)).drew
    have hnx := hx.num
    clear hx
    go_wp2_with fail
    go_region_law (first
      | (go_simp; (go_at_call 94; ((with_reducible refine (l1Own_any P B d _ hxd.out.rP (by omega)).mono ?_); rintro e w6 ⟨v6, rfl, o6, b6⟩); (obtain ⟨B6, d6, rfl, -, -⟩ := o6.rd); (have g6 : w5.heap.size ≤ w6.heap.size := by have h := b6.size; simpa using h); (have h6 := Lib.hid (hxd.out.st b6)); (have h6a := Lib.hid (h6.out.alloc (.cells #[.slice none 0 0, .slice none 0 0] 53))); (have m0 := h6.out.bX.cell 0); (have m1 := h6.out.bX.cell 1); (simp at m0 m1); (have ml := h6.out.bX.lt)))
      | (go_simp; (go_at_call 94; ((with_reducible refine (l1Own_any P B d _ hxa.out.rP (by omega)).mono ?_); rintro e w6 ⟨v6, rfl, o6, b6⟩); (obtain ⟨B6, d6, rfl, -, -⟩ := o6.rd); (have g6 : w5.heap.size + 1 ≤ w6.heap.size := by have h := b6.size; simpa using h); (have h6 := Lib.hid (hxa.out.st b6)); (have h6a := Lib.hid (h6.out.alloc (.cells #[.slice none 0 0, .slice none 0 0] 53))); (have m0 := h6.out.bX.cell 0); (have m1 := h6.out.bX.cell 1); (simp at m0 m1); (have ml := h6.out.bX.lt)); (have bH : Bk w6 w5.heap.size 53 #[.slice none 0 0, .slice none 0 0] := (Bk.new w5 53 #[.slice none 0 0, .slice none 0 0]).drew.st b6); (have k0 := bH.cell 0); (have k1 := bH.cell 1); (have kf0 := bH.frozen 0); (have kf1 := bH.frozen 1); (have kl := bH.lt); (simp at k0 k1))
      | (go_simp; (go_at_call 94; ((with_reducible refine (l1Own_any S C f _ h6.out.rS (by omega)).mono ?_); rintro e w7 ⟨v7, rfl, o7, b7⟩); (obtain ⟨C7, f7, rfl, -, -⟩ := o7.rd); (have g7 : w6.heap.size ≤ w7.heap.size := by have h := b7.size; simpa using h); (have h7 := Lib.hid (h6.out.st b7)); (have n0 := h7.out.bX.cell 0); (have n1 := h7.out.bX.cell 1); (simp at n0 n1); (have nl := h7.out.bX.lt)); (try ((have bH := bH.st b7); (have k0 := bH.cell 0); (have k1 := bH.cell 1); (have kf0 := bH.frozen 0); (have kf1 := bH.frozen 1); (have kl := bH.lt); (simp at k0 k1))))
      | (go_simp; (go_at_call 94; ((with_reducible refine (l1Own_any S C f _ h6a.out.rS (by omega)).mono ?_); rintro e w7 ⟨v7, rfl, o7, b7⟩); (obtain ⟨C7, f7, rfl, -, -⟩ := o7.rd); (have g7 : w6.heap.size + 1 ≤ w7.heap.size := by have h := b7.size; simpa using h); (have h7 := Lib.hid (h6a.out.st b7)); (have n0 := h7.out.bX.cell 0); (have n1 := h7.out.bX.cell 1); (simp at n0 n1); (have nl := h7.out.bX.lt)); (have bH := (Bk.new w6 53 #[.slice none 0 0, .slice none 0 0]).st b7); (have k0 := bH.cell 0); (have k1 := bH.cell 1); (have kf0 := bH.frozen 0); (have kf1 := bH.frozen 1); (have kl := bH.lt); (simp at k0 k1)))
    all_goals
      have hl6 := o6.len.2
      clear y0 y1 yl yf0 yf1 m0 m1 ml n0 n1 nl
      first
        | ((have hfin := Lib.hid (And.intro (show Bk ((w7.setCell ⟨w6.heap.size, 0, none⟩ (.slice B6 P.length d6)).setCell ⟨w6.heap.size, 1, none⟩ (.slice C7 S.length f7)) (w6.heap.size) 53 #[.slice B6 P.length d6, .slice C7 S.length f7] by simpa using (bH.set_ 0 (.slice B6 P.length d6)).set_ 1 (.slice C7 S.length f7)) (And.intro (((((o6.rd'.mono (show w5.heap.size ≤ _ by exact Nat.le_refl _) (Nat.le_refl _)).alloc _).st b7).setAny (p := ⟨w6.heap.size, 0, none⟩) (by dsimp only; omega) (.slice B6 P.length d6)).setAny (p := ⟨w6.heap.size, 1, none⟩) (by dsimp only; omega) (.slice C7 S.length f7)) (And.intro (((o7.mono (show w6.heap.size + 1 ≤ _ by simp) (Nat.le_refl _)).setCell (p := ⟨w6.heap.size, 0, none⟩) (by dsimp only; omega) (.slice B6 P.length d6)).setCell (p := ⟨w6.heap.size, 1, none⟩) (by dsimp only; omega) (.slice C7 S.length f7)) ((h7.out.high (p := ⟨w6.heap.size, 0, none⟩) (by dsimp only; omega) (.slice B6 P.length d6)).high (p := ⟨w6.heap.size, 1, none⟩) (by dsimp only; omega) (.slice C7 S.length f7)))))); (clear o6 o7 b6 b7 h6 h6a h7 hxd hxa bH k0 k1 kf0 kf1); (go_wp2_with fail); (go_meet); (case rel => exact ⟨w6.heap.size, w5.heap.size, w6.heap.size, w6.heap.size + 1, w7.heap.size, B6, d6, C7, f7, rfl, hfin.out.1, hfin.out.2.1, hl6, hfin.out.2.2.1, hfin.out.2.2.2, by omega, by simp only [size_setCell]; omega⟩))
        | ((have hfin := Lib.hid (And.intro (show Bk ((w7.setCell ⟨w5.heap.size, 0, none⟩ (.slice B6 P.length d6)).setCell ⟨w5.heap.size, 1, none⟩ (.slice C7 S.length f7)) (w5.heap.size) 53 #[.slice B6 P.length d6, .slice C7 S.length f7] by simpa using (bH.set_ 0 (.slice B6 P.length d6)).set_ 1 (.slice C7 S.length f7)) (And.intro ((((o6.rd'.mono (show w5.heap.size + 1 ≤ _ by simp) (Nat.le_refl _)).st b7).setAny (p := ⟨w5.heap.size, 0, none⟩) (by dsimp only; omega) (.slice B6 P.length d6)).setAny (p := ⟨w5.heap.size, 1, none⟩) (by dsimp only; omega) (.slice C7 S.length f7)) (And.intro (((o7.mono (show w6.heap.size ≤ _ by simp) (Nat.le_refl _)).setCell (p := ⟨w5.heap.size, 0, none⟩) (by dsimp only; omega) (.slice B6 P.length d6)).setCell (p := ⟨w5.heap.size, 1, none⟩) (by dsimp only; omega) (.slice C7 S.length f7)) ((h7.out.high (p := ⟨w5.heap.size, 0, none⟩) (by dsimp only; omega) (.slice B6 P.length d6)).high (p := ⟨w5.heap.size, 1, none⟩) (by dsimp only; omega) (.slice C7 S.length f7)))))); (clear o6 o7 b6 b7 h6 h6a h7 hxd hxa bH k0 k1 kf0 kf1); (go_wp2_with fail); (go_meet); (case rel => exact ⟨w5.heap.size, w5.heap.size + 1, w6.heap.size, w6.heap.size, w7.heap.size, B6, d6, C7, f7, rfl, hfin.out.1, hfin.out.2.1, hl6, hfin.out.2.2.1, hfin.out.2.2.2, by omega, by simp only [size_setCell]; omega⟩))
        | ((have hfin := Lib.hid (And.intro (Bk.new w7 53 #[.slice B6 P.length d6, .slice C7 S.length f7]) (And.intro (((o6.rd'.mono (show w5.heap.size ≤ _ by exact Nat.le_refl _) (Nat.le_refl _)).st b7).alloc (.cells #[.slice B6 P.length d6, .slice C7 S.length f7] 53)) (And.intro (o7.alloc (.cells #[.slice B6 P.length d6, .slice C7 S.length f7] 53)) (h7.out.alloc (.cells #[.slice B6 P.length d6, .slice C7 S.length f7] 53)))))); (clear o6 o7 b6 b7 h6 h6a h7 hxd hxa); (go_wp2_with fail); (go_meet); (case rel => exact ⟨w7.heap.size, w5.heap.size, w6.heap.size, w6.heap.size, w7.heap.size, B6, d6, C7, f7, rfl, hfin.out.1, hfin.out.2.1, hl6, hfin.out.2.2.1, hfin.out.2.2.2, by omega, by simp⟩))
  case rest =>
    clear hx
    obtain ⟨H7, l6, m, l7, h7, B6, d6, C7, f7, rfl, b7, r6, hd6, o7, hx, hm1, hm3⟩ := hcut
    obtain ⟨wy, rfl⟩ : ∃ u, u = wc := ⟨_, rfl⟩
    have x1 := b7.cell 1
    have xl := b7.lt
    simp at x1
    go_wp2_with fail
    clear x1 xl
    go_loopw [27] (fun i wr => ∃ k : Nat, k ≤ S.length ∧ i = .int .i64 (k : Int) ∧ ∃ zs : List Int, zs.length = S.length ∧ Bk wr H7 53 #[.slice B6 P.length d6, .slice C7 S.length f7] ∧ Rd wr l6 m B6 P ∧ Own wr l7 h7 (.slice C7 S.length f7) zs ∧ CpL w (600 + 4 * k) L H6 P S B C d f wr ∧ H7 < wr.heap.size) (fun i _ => S.length - (intOf i).toNat)
    case atStart => exact ⟨0, Nat.zero_le _, rfl, S, rfl, b7, r6, o7, hx.le (by omega), hm3⟩
    case round =>
      clear b7 r6 o7 hx hm3
      obtain ⟨k, hk, rfl, zs, hzl, b7, r6, o7, hx, hm3⟩ := hrel
      have hzH := Lib.hid hzl
      clear hzl
      by_cases hlt : k < S.length
      · have i1 : (k : Int) < (S.length : Int) := by omega
        go_wp2_with fail
        (with_reducible refine (one_any (w.heap.size + 2) (600 + 4 * k) 5 _ hx.cur (by omega) (by omega)).mono ?_)
        rintro e w8 ⟨v, rfl, hcn, fa, s8⟩
        have hs8 : wr.heap.size ≤ w8.heap.size := by omega
        have hn8 := hx.num
        replace hx := hx.frc fa hcn
        replace b7 := b7.fr fa (by omega)
        replace r6 := r6.fr fa (by omega)
        replace o7 := o7.fr fa (by omega)
        clear fa hcn s8
        cases v with
        | false =>
          have hall := Lib.hid (And.intro b7 (And.intro r6 (And.intro o7 hx)))
          clear b7 r6 o7 hx
          go_wp2_with fail
          go_roundw
          case rel => exact ⟨k + 1, by omega, by go_num, zs, hzH.out, hall.out.1, hall.out.2.1, hall.out.2.2.1, hall.out.2.2.2.le (by omega), by omega⟩
          case measure => simp [intOf]; omega
        | true =>
          have hkz : k < zs.length := by have := hzH.out; omega
          obtain ⟨q, cq, he, g1, g2, g3, hcell, hfz⟩ := o7.at_ (by omega)
          injection he with he1 he2 he3
          subst he1
          clear he2 he3
          have x1 := b7.cell 1
          have xl := b7.lt
          simp at x1
          have y0 := hcell k hkz
          have yf := hfz k
          have i0 : (0 : Int) ≤ (k : Int) := by omega
          have hxd := Lib.hid hx.drew
          have bd := Lib.hid b7.drew
          have rd6 := Lib.hid r6.drew
          have od := Lib.hid o7.drew
          clear hcell hx b7 r6 o7
          go_wp2_with fail
          go_region_law (first | (go_simp; (go_at_call 115; ((with_reducible refine (pick_any (w.heap.size + 2) (600 + 4 * k + 2) 60 _ hxd.out.cur (by omega) (by omega)).mono ?_); rintro e w9 ⟨x, rfl, hxb, hc9, f9, s9⟩); (have hs9 : w8.heap.size ≤ w9.heap.size := f9.size); (have b9 := bd.out.fr f9 (by omega)); (have o9 := od.out.fr f9 (by omega)); (have t1 := b9.cell 1); (have tl := b9.lt); (simp at t1); (obtain ⟨z0, zf, -, -, -⟩ := o9.at2 hkz); (have v1 : IntKind.i64.wrap (1 + x) = 1 + x := IntWalk.i64_in _ (by omega)))))
          all_goals
            have h9 := hxd.out.frc f9 hc9
            have r9 := rd6.out.fr f9 (by omega)
            have hn9 := h9.num
            have hfin := Lib.hid (And.intro (b9.far (p := ⟨q, k, none⟩) (by dsimp only; omega) (.int .i64 (1 + x))) (And.intro (r9.setAny (p := ⟨q, k, none⟩) (by dsimp only; omega) (.int .i64 (1 + x))) (And.intro (o9.stored (j := k) (1 + x)) (h9.high (p := ⟨q, k, none⟩) (by dsimp only; omega) (.int .i64 (1 + x))))))
            have hzk : (zs.set k (1 + x)).length = S.length := by rw [List.length_set]; exact hzH.out
            have hzkH := Lib.hid hzk
            clear hzk b9 r9 o9 h9 hxd bd rd6 od f9 hc9 x1 y0 t1 z0 yf zf v1
            go_wp2_with fail
            go_roundw
            case rel => exact ⟨k + 1, by omega, by go_num, _, hzkH.out, hfin.out.1, hfin.out.2.1, hfin.out.2.2.1, hfin.out.2.2.2.le (by omega), by rw [size_setCell]; omega⟩
            case measure => simp [intOf]; omega
      · have hlt2 : ¬ ((k : Int) < (S.length : Int)) := by omega
        obtain ⟨wl, rfl⟩ : ∃ u, u = wr := ⟨_, rfl⟩
        have hn8 := hx.num
        have hml := Lib.hid (And.intro b7 (And.intro r6 o7))
        clear b7 r6 o7
        go_wp2_with fail
        (with_reducible refine (one_any (w.heap.size + 2) (600 + 4 * k) 10 _ hx.cur (by omega) (by omega)).mono ?_)
        rintro e w8 ⟨v, rfl, hcn, fa, s8⟩
        have hs8 : wl.heap.size ≤ w8.heap.size := by omega
        replace hx := (hx.frc fa hcn).le (show 600 + 4 * k + 2 ≤ 1000 by omega)
        have b7 := hml.out.1.fr fa (by omega)
        have r6 := hml.out.2.1.fr fa (by omega)
        have o7 := hml.out.2.2.fr fa (by omega)
        clear fa hcn s8 hml
        have hLs := hLH.out
        go_upto_if 41 with fail
        go_cut [] (fun wq => ∃ (P2 S2 : List Int) (B2 : Option Addr) (d2 : Nat) (C2 : Option Addr) (f2 : Nat), Bk wq H7 53 #[.slice B2 P2.length d2, .slice C2 S2.length f2] ∧ Rd wq (w.heap.size + 2) wq.heap.size B2 P2 ∧ Rd wq (w.heap.size + 2) wq.heap.size C2 S2 ∧ (P2.length ≤ 61 ∧ S2.length ≤ 61 ∧ P2.length ≤ d2 ∧ S2.length ≤ f2) ∧ CpL w 2000 L H6 P S B C d f wq)
        case first =>
          cases v with
          | false =>
            have hcf := o7.len.2
            have hzl := hzH.out
            have hfin := Lib.hid (And.intro (show Bk w8 H7 53 #[.slice B6 P.length d6, .slice C7 zs.length f7] by rw [hzl]; exact b7) (And.intro (r6.mono (show w.heap.size + 2 ≤ _ by omega) (Nat.le_refl _)).top (And.intro (o7.rd'.mono (show w.heap.size + 2 ≤ _ by omega) (Nat.le_refl _)).top (hx.le (show 1000 ≤ 2000 by omega)))))
            have hb4 := Lib.hid (show P.length ≤ 61 ∧ zs.length ≤ 61 ∧ P.length ≤ d6 ∧ zs.length ≤ f7 from ⟨a2, by omega, hd6, by omega⟩)
            clear b7 r6 o7 hx hzl hcf
            go_wp2_with fail
            go_meet
            case rel => exact ⟨P, zs, B6, d6, C7, f7, hfin.out.1, hfin.out.2.1, hfin.out.2.2.1, hb4.out, hfin.out.2.2.2⟩
          | true =>
            clear r6 o7
            go_wp2_with fail
            (with_reducible refine (secret_any (w.heap.size + 2) 1000 _ hx.cur (by omega)).mono ?_)
            rintro e w9 ⟨key2, pages2, us2, P2, S2, A2, c2, B2, d2, C2, f2, lu2, hu2, rfl, ⟨q1, q2, q3, q4, q5⟩, -, rP2, rS2, -, hcn, fa⟩
            have s9 := fa.size
            have h9 := hx.frc fa hcn
            have b9 := b7.fr fa (by omega)
            clear hcn fa hx b7
            have x0 := b9.cell 0
            have x1 := b9.cell 1
            have xf0 := b9.frozen 0
            have xf1 := b9.frozen 1
            simp at x0 x1
            have xl := b9.lt
            have hfin := Lib.hid (And.intro (show Bk ((w9.setCell ⟨H7, 0, none⟩ (.slice B2 P2.length d2)).setCell ⟨H7, 1, none⟩ (.slice C2 S2.length f2)) H7 53 #[.slice B2 P2.length d2, .slice C2 S2.length f2] by simpa using (b9.set_ 0 (.slice B2 P2.length d2)).set_ 1 (.slice C2 S2.length f2)) (And.intro ((rP2.setAny (p := ⟨H7, 0, none⟩) (.inl (by dsimp only; omega)) (.slice B2 P2.length d2)).setAny (p := ⟨H7, 1, none⟩) (.inl (by dsimp only; omega)) (.slice C2 S2.length f2)) (And.intro ((rS2.setAny (p := ⟨H7, 0, none⟩) (.inl (by dsimp only; omega)) (.slice B2 P2.length d2)).setAny (p := ⟨H7, 1, none⟩) (.inl (by dsimp only; omega)) (.slice C2 S2.length f2)) ((h9.high (p := ⟨H7, 0, none⟩) (by dsimp only; omega) (.slice B2 P2.length d2)).high (p := ⟨H7, 1, none⟩) (by dsimp only; omega) (.slice C2 S2.length f2)))))
            have hs98 := Lib.hid (show w.heap.size + 2 ≤ w8.heap.size by omega)
            clear rP2 rS2 h9 b9
            go_wp2_with fail
            go_meet
            case rel => exact ⟨P2, S2, B2, d2, C2, f2, hfin.out.1, hfin.out.2.1.top.mono hs98.out (Nat.le_refl _), hfin.out.2.2.1.top.mono hs98.out (Nat.le_refl _), ⟨q2, q3, q4, q5⟩, hfin.out.2.2.2.le (by omega)⟩
        case rest =>
          clear b7 r6 o7 hx
          obtain ⟨P2, S2, B2, d2, C2, f2, b7, rP2, rS2, hl2, hx⟩ := hcut
          obtain ⟨wz, rfl⟩ : ∃ u, u = wc := ⟨_, rfl⟩
          have hnz := hx.num
          have x0 := hx.bX.cell 0
          have x1 := hx.bX.cell 1
          have xl := hx.bX.lt
          have y0 := b7.cell 0
          have y1 := b7.cell 1
          have yl := b7.lt
          simp at x0 x1 y0 y1
          have z0 := hx.bZ.cell 0
          have z1 := hx.bZ.cell 1
          have zf0 := hx.bZ.frozen 0
          have zf1 := hx.bZ.frozen 1
          simp at z0 z1
          have zl := hx.bZ.lt
          have t0 := hx.bY.cell 0
          have t1 := hx.bY.cell 1
          have tf0 := hx.bY.frozen 0
          have tf1 := hx.bY.frozen 1
          simp at t0 t1
          have tl := hx.bY.lt
          have ho := Lib.hid (And.intro (set22 hx hx.rP (by omega) (.slice B P.length d) (.slice C S.length f) (.slice B2 P2.length d2) (.slice C2 S2.length f2)) (And.intro (set22 hx hx.rS (by omega) (.slice B P.length d) (.slice C S.length f) (.slice B2 P2.length d2) (.slice C2 S2.length f2)) (And.intro (set22 hx rP2 (Nat.le_refl _) (.slice B P.length d) (.slice C S.length f) (.slice B2 P2.length d2) (.slice C2 S2.length f2)) (And.intro (set22 hx rS2 (Nat.le_refl _) (.slice B P.length d) (.slice C S.length f) (.slice B2 P2.length d2) (.slice C2 S2.length f2)) (hx.put (.slice B P.length d) (.slice C S.length f) (.slice B2 P2.length d2) (.slice C2 S2.length f2))))))
          clear hx b7 rP2 rS2
          go_wp2_with fail
          go_region
          all_goals (go_wp2_with fail)
          refine bodyPost_ret (v := .tuple #[.agg #[.slice B P.length d, .slice C S.length f], .agg #[.slice B2 P2.length d2, .slice C2 S2.length f2]]) (by simp [results, Tryz.results35, go_sem, z0, z1, t0, t1]) rfl ?_
          have h9 := ho.out
          exact ⟨P, S, B, d, C, f, P2, S2, B2, d2, C2, f2, rfl, ⟨a2, a3, a4, a5⟩, hl2, h9.1.drew.std, h9.2.1.drew.std, h9.2.2.1.drew.std, h9.2.2.2.1.drew.std, h9.2.2.2.2.drew⟩
end Go.Proofs.YtjhbffndiaggmaaGreatDoor
