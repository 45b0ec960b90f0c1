/-
  Contracts of the drawn key books' draws: keyPageOf, and the choices for pages. The conditions are bounds on how often the cursor has been asked.
-/
import Derived.Test.YtbagliaelolhcaaCurKb
namespace Go.Proofs.Ytbagliaelolhcaa
open Go.RowKit Go.ChangeShapes Go.WideShapes
set_option linter.unusedVariables false
set_option linter.unusedSimpArgs false

theorem l1Most_w (a b : Int) (w : World) :
    Calls Try.prog 121 #[.int .i64 a, .int .i64 b] w fun e w' => ∃ x : Int, e = .returned (.int .i64 x) ∧ (x = a ∨ x = b) ∧ w = w' := by
  by_cases h : b < a
  · go_enter Try.func121, Try.ntmps121
    go_wp2_with fail
    go_ret
    exact ⟨a, rfl, .inl rfl, rfl⟩
  · go_enter Try.func121, Try.ntmps121
    go_wp2_with fail
    go_ret
    exact ⟨b, rfl, .inr rfl, rfl⟩
set_option maxRecDepth 100000 in
set_option maxHeartbeats 4000000 in
theorem keyPageOf_any (g N : Nat) (key pages : Int) (A : Option Addr) (k c : Nat) (w : World) (hc : Cur w g N) (hN : N ≤ 4611686018427380000) (hp : 0 ≤ pages ∧ pages ≤ 61) :
    Calls Try.prog 128 #[.pointer (some ⟨g, 0, none⟩), .agg #[.int .i64 key, .int .i64 pages, .slice A k c]] w fun e w' => ∃ x : Int, e = .returned (.int .i64 x) ∧ Cur w' g (N + 6) ∧ Fr g (g + 1) w w' := by
  have hgl := hc.lt
  have b0 := Bk.new w 74 #[.int .i64 key, .int .i64 pages, .slice A k c]
  have hc0 := hc.alloc (.cells #[.int .i64 key, .int .i64 pages, .slice A k c] 74)
  have hF0 := (Fr.refl g (g + 1) w).alloc (.cells #[.int .i64 key, .int .i64 pages, .slice A k c] 74)
  go_enter Try.func128, Try.ntmps128
  have y1 := b0.cell 1
  simp at y1
  go_wp2_with fail
  (with_reducible refine (l1Most_w 1 pages _).mono ?_)
  rintro e w' ⟨m, rfl, hm, rfl⟩
  have hmb : 0 ≤ m ∧ m ≤ 61 := by omega
  clear hm
  go_wp2_with fail
  (with_reducible refine (pick_any g N 16 _ hc0 (by omega) (by omega)).mono ?_)
  rintro e w1 ⟨x, rfl, hx, hc1, hf1, hs1⟩
  have hF1 := hF0.trans hf1
  have hxb : 0 ≤ x ∧ x ≤ 15 := by omega
  clear hf1 hs1 hF0 hc0 hx b0 y1
  obtain ⟨d, hd⟩ : ∃ d, d = x.tdiv 15 := ⟨_, rfl⟩
  have hdb : 0 ≤ d ∧ d ≤ 1 := by rw [hd, Int.tdiv_eq_ediv_of_nonneg hxb.1]; omega
  have hd1 : IntKind.i64.wrap (x.tdiv 15) = d := by rw [← hd]; exact IntWalk.i64_in _ (by omega)
  have hd3 : x.tdiv 15 = d := hd.symm
  clear hd
  have hd2 : IntKind.i64.wrap (m + d) = m + d := IntWalk.i64_in _ (by omega)
  go_wp2_with fail
  (with_reducible refine (pick_any g (N + 2) (m + d) _ hc1 (by omega) (by omega)).mono ?_)
  rintro e w2 ⟨y, rfl, hy, hc2, hf2, hs2⟩
  have hF2 := hF1.trans hf2
  have hyb : 0 ≤ y ∧ y ≤ 62 := by omega
  clear hf2 hs2 hF1 hc1 hy hd2
  go_wp2_with fail
  (with_reducible refine (pick_any g (N + 4) 24 _ hc2 (by omega) (by omega)).mono ?_)
  rintro e w3 ⟨z, rfl, hz, hc3, hf3, hs3⟩
  have hF3 := hF2.trans hf3
  have hzb : 0 ≤ z ∧ z ≤ 23 := by omega
  clear hf3 hs3 hF2 hc2 hz
  obtain ⟨f, hf⟩ : ∃ f, f = z.tdiv 23 := ⟨_, rfl⟩
  have hfb : 0 ≤ f ∧ f ≤ 1 := by rw [hf, Int.tdiv_eq_ediv_of_nonneg hzb.1]; omega
  have hf1 : IntKind.i64.wrap (z.tdiv 23) = f := by rw [← hf]; exact IntWalk.i64_in _ (by omega)
  have hf3 : z.tdiv 23 = f := hf.symm
  clear hf
  have hf2 : IntKind.i64.wrap (y - f) = y - f := IntWalk.i64_in _ (by omega)
  go_wp2_with fail
  go_ret
  exact ⟨_, rfl, hc3, hF3⟩
set_option maxRecDepth 100000 in
theorem big_v (A1 A2 : Option Addr) (n1 c1 n2 c2 : Nat) (w : World) (h1 : n1 ≤ 9223372036854775807) (h2 : n2 ≤ 9223372036854775807) :
    Calls Try.prog 31 #[.slice A1 n1 c1, .slice A2 n2 c2] w fun e w' => (e = .returned (.bool false) ∧ n1 + n2 ≤ 1048576 ∧ w = w') ∨ (e = .returned (.bool true) ∧ w = w') := by
  by_cases h : (1048576 : Int) < (n1 : Int)
  · go_enter Try.func31, Try.ntmps31
    go_wp2_with fail
    go_ret
    exact .inr ⟨rfl, rfl⟩
  · have hw : IntKind.i64.wrap (1048576 - (n1 : Int)) = 1048576 - (n1 : Int) := IntWalk.i64_in _ (by omega)
    by_cases h2 : 1048576 - (n1 : Int) < (n2 : Int)
    · go_enter Try.func31, Try.ntmps31
      go_wp2_with fail
      go_ret
      exact .inr ⟨rfl, rfl⟩
    · go_enter Try.func31, Try.ntmps31
      go_wp2_with fail
      go_ret
      exact .inl ⟨rfl, by omega, rfl⟩
section
variable {w w' : World} {g : Nat}
theorem CodeAt.up {A : Option Addr} {n g' : Nat} (h : CodeAt w g A n) (hg : g ≤ g') : CodeAt w g' A n := fun hp => by
  obtain ⟨b, off, e, hb, hc⟩ := h hp
  exact ⟨b, off, e, by omega, hc⟩
theorem CodeAt.alloc {A : Option Addr} {n : Nat} (h : CodeAt w g A n) (o : Obj) : CodeAt (w.alloc o) g A n := h.keep fun b o' _ h2 => World.cell?_of_block (w := w) (Below.heap_alloc w o b h2)
theorem Cur.fresh {A : Option Addr} {n c : Nat} (h : CodeAt w w.heap.size A n) (hn : n ≤ 9223372036854775807) (hc : n ≤ c) : Cur (w.alloc (.cells #[.slice A n c, .int .i64 0, .int .u64 0] 123)) w.heap.size 0 :=
  ⟨A, n, c, 0, 0, Bk.new w _ _, ⟨Int.le_refl _, Int.le_refl _⟩, hn, hc, h.alloc _⟩
end
set_option maxRecDepth 100000 in
set_option maxHeartbeats 4000000 in
theorem drawKeyPage_any (A0 : Option Addr) (n c0 : Nat) (w : World) (hcd : CodeAt w w.heap.size A0 n) (hn : n ≤ 9223372036854775807) (hnc : n ≤ c0) :
    Calls Try.prog 59 #[.slice A0 n c0] w fun e w' => ∃ (key pages : Int) (us : List Int) (A : Option Addr) (c : Nat) (pg : Int), e = .returned (.tuple #[.agg #[.int .i64 key, .int .i64 pages, .slice A us.length c], .int .i64 pg]) ∧ us.length ≤ 100 ∧
      Own w' w.heap.size w'.heap.size (.slice A us.length c) us ∧ Below w.heap.size w w' := by
  obtain ⟨ZB, hZB⟩ : ∃ ZB, ZB = Obj.cells #[.int .i64 0, .int .i64 0, .slice none 0 0] 74 (0, 0) := ⟨_, rfl⟩
  have bZ := (show Bk (w.alloc ZB) w.heap.size 74 #[.int .i64 0, .int .i64 0, .slice none 0 0] by rw [hZB]; exact Bk.new w _ _).alloc (.cells #[.slice A0 n c0, .int .i64 0, .int .u64 0] 123)
  have hc0 := Cur.fresh ((hcd.up (Nat.le_succ _)).alloc ZB |>.up (by simp)) hn hnc
  rw [show (w.alloc ZB).heap.size = w.heap.size + 1 by simp] at hc0
  have hB0 := ((Below.refl w.heap.size w).alloc (Nat.le_refl _) ZB).alloc (by simp) (.cells #[.slice A0 n c0, .int .i64 0, .int .u64 0] 123)
  have hs0 := Lib.hid (show ((w.alloc ZB).alloc (.cells #[.slice A0 n c0, .int .i64 0, .int .u64 0] 123)).heap.size = w.heap.size + 2 by simp)
  go_enter Try.func59, Try.ntmps59
  go_wp2_with fail
  rw [← hZB]
  (with_reducible refine (keyBook_any (w.heap.size + 1) 0 _ hc0 (by omega)).mono ?_)
  rintro e w1 ⟨key, pages, us, A, c, rfl, hpg, hus, hown, hc1, hf1⟩
  have hB1 := hB0.trans (hf1.below (B := w.heap.size) (by omega) (by have := hs0.out; omega))
  have hl1 : w.heap.size + 2 ≤ w1.heap.size := by have := hf1.size; have := hs0.out; omega
  have bZ1 := bZ.fr hf1 (by omega)
  have hown1 : Own w1 (w.heap.size + 2) w1.heap.size (.slice A us.length c) us := by rw [← hs0.out]; exact hown
  have bk2 := Bk.new w1 74 #[.int .i64 key, .int .i64 pages, .slice A us.length c]
  have bZ2 := bZ1.alloc (.cells #[.int .i64 key, .int .i64 pages, .slice A us.length c] 74)
  have hc2 := hc1.alloc (.cells #[.int .i64 key, .int .i64 pages, .slice A us.length c] 74)
  have hB2 := hB1.alloc (by omega) (.cells #[.int .i64 key, .int .i64 pages, .slice A us.length c] 74)
  have hown2 := hown1.alloc (.cells #[.int .i64 key, .int .i64 pages, .slice A us.length c] 74)
  clear bZ hc0 hB0 hf1 hB1 bZ1 hown hown1 hc1
  have y0 := bk2.cell 0
  have y1 := bk2.cell 1
  have y2 := bk2.cell 2
  have t0 := bZ2.cell 0
  have t1 := bZ2.cell 1
  have t2 := bZ2.cell 2
  have f0 := bZ2.frozen 0
  have f1 := bZ2.frozen 1
  have f2 := bZ2.frozen 2
  simp at y0 y1 y2 t0 t1 t2
  go_wp2_with fail
  have bk2x := bk2.drew
  have bZ2x := bZ2.drew
  have hc2x := hc2.drew
  have hB2x := hB2.drew
  have hown2x := hown2.drew
  have hs2x := Lib.hid (show (w1.alloc (.cells #[.int .i64 key, .int .i64 pages, .slice A us.length c] 74)).drew.heap.size = w1.heap.size + 1 by simp)
  clear bk2 bZ2 hc2 hB2 hown2
  go_region_law (first
    | (go_simp; (go_at_call 128; ((with_reducible refine (keyPageOf_any (w.heap.size + 1) 300 key pages A us.length c _ hc2x (by omega) hpg).mono ?_); rintro e w3 ⟨pg, rfl, hc3, hf3⟩); (have hl3 : w1.heap.size + 1 ≤ w3.heap.size := by have := hf3.size; have := hs2x.out; omega); (have bk3 := bk2x.fr hf3 (by omega)); (have bZ3 := bZ2x.fr hf3 (by omega)); (have z0 := bk3.cell 0); (have z1 := bk3.cell 1); (have z2 := bk3.cell 2); (have u0 := bZ3.cell 0); (have u1 := bZ3.cell 1); (have u2 := bZ3.cell 2); (have g0 := bZ3.frozen 0); (have g1 := bZ3.frozen 1); (have g2 := bZ3.frozen 2); (simp at z0 z1 z2 u0 u1 u2))))
  all_goals
    have hB3 := hB2x.trans (hf3.below (B := w.heap.size) (by omega) (by have := hs2x.out; omega))
    have hown3 := hown2x.fr hf3 (.inr (by omega))
    have hwH := Lib.hid (((hB3.setCell (p := ⟨w.heap.size, 0, none⟩) (Nat.le_refl _) (.int .i64 key)).setCell (p := ⟨w.heap.size, 1, none⟩) (Nat.le_refl _) (.int .i64 pages)).setCell (p := ⟨w.heap.size, 2, none⟩) (Nat.le_refl _) (.slice A us.length c))
    have hoH := Lib.hid (((hown3.setCell (p := ⟨w.heap.size, 0, none⟩) (.inl (by dsimp only; omega)) (.int .i64 key)).setCell (p := ⟨w.heap.size, 1, none⟩) (.inl (by dsimp only; omega)) (.int .i64 pages)).setCell (p := ⟨w.heap.size, 2, none⟩) (.inl (by dsimp only; omega)) (.slice A us.length c))
    have hzl := bZ3.lt
    clear hB3 hown3 hf3 hc3 bk3 bZ3 bk2x bZ2x hc2x hB2x hown2x
    go_wp2_with fail
    refine bodyPost_ret (v := .tuple #[.agg #[.int .i64 key, .int .i64 pages, .slice A us.length c], .int .i64 pg]) (by simp [results, Try.results59, go_sem, u0, u1, u2]) rfl ?_
    exact ⟨key, pages, us, A, c, pg, rfl, hus, hoH.out.mono (by omega) (by simp only [size_setCell]; omega), hwH.out⟩
set_option maxRecDepth 100000 in
set_option maxHeartbeats 4000000 in
theorem drawSameNumbers_any (A0 : Option Addr) (n c0 : Nat) (w : World) (hcd : CodeAt w w.heap.size A0 n) (hn : n ≤ 9223372036854775807) (hnc : n ≤ c0) :
    Calls Try.prog 64 #[.slice A0 n c0] w fun e w' => ∃ (key pages : Int) (us : List Int) (A : Option Addr) (c : Nat) (pg pq : Int), e = .returned (.tuple #[.agg #[.int .i64 key, .int .i64 pages, .slice A us.length c], .int .i64 pg, .int .i64 pq]) ∧ us.length ≤ 100 ∧
      Own w' w.heap.size w'.heap.size (.slice A us.length c) us ∧ Below w.heap.size w w' := by
  obtain ⟨ZB, hZB⟩ : ∃ ZB, ZB = Obj.cells #[.int .i64 0, .int .i64 0, .slice none 0 0] 74 (0, 0) := ⟨_, rfl⟩
  have bZ := (show Bk (w.alloc ZB) w.heap.size 74 #[.int .i64 0, .int .i64 0, .slice none 0 0] by rw [hZB]; exact Bk.new w _ _).alloc (.cells #[.slice A0 n c0, .int .i64 0, .int .u64 0] 123)
  have hc0 := Cur.fresh ((hcd.up (Nat.le_succ _)).alloc ZB |>.up (by simp)) hn hnc
  rw [show (w.alloc ZB).heap.size = w.heap.size + 1 by simp] at hc0
  have hB0 := ((Below.refl w.heap.size w).alloc (Nat.le_refl _) ZB).alloc (by simp) (.cells #[.slice A0 n c0, .int .i64 0, .int .u64 0] 123)
  have hs0 := Lib.hid (show ((w.alloc ZB).alloc (.cells #[.slice A0 n c0, .int .i64 0, .int .u64 0] 123)).heap.size = w.heap.size + 2 by simp)
  go_enter Try.func64, Try.ntmps64
  go_wp2_with fail
  rw [← hZB]
  (with_reducible refine (keyBook_any (w.heap.size + 1) 0 _ hc0 (by omega)).mono ?_)
  rintro e w1 ⟨key, pages, us, A, c, rfl, hpg, hus, hown, hc1, hf1⟩
  have hB1 := hB0.trans (hf1.below (B := w.heap.size) (by omega) (by have := hs0.out; omega))
  have hl1 : w.heap.size + 2 ≤ w1.heap.size := by have := hf1.size; have := hs0.out; omega
  have bZ1 := bZ.fr hf1 (by omega)
  have hown1 : Own w1 (w.heap.size + 2) w1.heap.size (.slice A us.length c) us := by rw [← hs0.out]; exact hown
  have bk2 := Bk.new w1 74 #[.int .i64 key, .int .i64 pages, .slice A us.length c]
  have bZ2 := bZ1.alloc (.cells #[.int .i64 key, .int .i64 pages, .slice A us.length c] 74)
  have hc2 := hc1.alloc (.cells #[.int .i64 key, .int .i64 pages, .slice A us.length c] 74)
  have hB2 := hB1.alloc (by omega) (.cells #[.int .i64 key, .int .i64 pages, .slice A us.length c] 74)
  have hown2 := hown1.alloc (.cells #[.int .i64 key, .int .i64 pages, .slice A us.length c] 74)
  clear bZ hc0 hB0 hf1 hB1 bZ1 hown hown1 hc1
  have y0 := bk2.cell 0
  have y1 := bk2.cell 1
  have y2 := bk2.cell 2
  have t0 := bZ2.cell 0
  have t1 := bZ2.cell 1
  have t2 := bZ2.cell 2
  have f0 := bZ2.frozen 0
  have f1 := bZ2.frozen 1
  have f2 := bZ2.frozen 2
  simp at y0 y1 y2 t0 t1 t2
  go_wp2_with fail
  have bk2x := bk2.drew
  have bZ2x := bZ2.drew
  have hc2x := hc2.drew
  have hB2x := hB2.drew
  have hown2x := hown2.drew
  have hs2x := Lib.hid (show (w1.alloc (.cells #[.int .i64 key, .int .i64 pages, .slice A us.length c] 74)).drew.heap.size = w1.heap.size + 1 by simp)
  clear bk2 bZ2 hc2 hB2 hown2
  go_region_law (first
    | (go_simp; (go_at_call 128; ((with_reducible refine (keyPageOf_any (w.heap.size + 1) 300 key pages A us.length c _ hc2x (by omega) hpg).mono ?_); rintro e w3 ⟨pg, rfl, hc3, hf3⟩); (have hl3 : w1.heap.size + 1 ≤ w3.heap.size := by have := hf3.size; have := hs2x.out; omega); (have bk3 := bk2x.fr hf3 (by omega)); (have bZ3 := bZ2x.fr hf3 (by omega)); (have z0 := bk3.cell 0); (have z1 := bk3.cell 1); (have z2 := bk3.cell 2); (simp at z0 z1 z2)))
    | (go_simp; (go_at_call 128; ((with_reducible refine (keyPageOf_any (w.heap.size + 1) 306 key pages A us.length c _ hc3 (by omega) hpg).mono ?_); rintro e w4 ⟨pq, rfl, hc4, hf4⟩); (have hl4 : w3.heap.size ≤ w4.heap.size := hf4.size); (have bk4 := bk3.fr hf4 (by omega)); (have bZ4 := bZ3.fr hf4 (by omega)); (have x0 := bk4.cell 0); (have x1 := bk4.cell 1); (have x2 := bk4.cell 2); (have u0 := bZ4.cell 0); (have u1 := bZ4.cell 1); (have u2 := bZ4.cell 2); (have g0 := bZ4.frozen 0); (have g1 := bZ4.frozen 1); (have g2 := bZ4.frozen 2); (simp at x0 x1 x2 u0 u1 u2))))
  all_goals
    have hF4 := hf3.trans hf4
    have hB4 := hB2x.trans (hF4.below (B := w.heap.size) (by omega) (by have := hs2x.out; omega))
    have hown4 := hown2x.fr hF4 (.inr (by omega))
    have hwH := Lib.hid (((hB4.setCell (p := ⟨w.heap.size, 0, none⟩) (Nat.le_refl _) (.int .i64 key)).setCell (p := ⟨w.heap.size, 1, none⟩) (Nat.le_refl _) (.int .i64 pages)).setCell (p := ⟨w.heap.size, 2, none⟩) (Nat.le_refl _) (.slice A us.length c))
    have hoH := Lib.hid (((hown4.setCell (p := ⟨w.heap.size, 0, none⟩) (.inl (by dsimp only; omega)) (.int .i64 key)).setCell (p := ⟨w.heap.size, 1, none⟩) (.inl (by dsimp only; omega)) (.int .i64 pages)).setCell (p := ⟨w.heap.size, 2, none⟩) (.inl (by dsimp only; omega)) (.slice A us.length c))
    have hzl := bZ4.lt
    clear hB4 hF4 hown4 hf3 hc3 bk3 bZ3 bk2x bZ2x hc2x hB2x hown2x hf4 hc4 bk4 bZ4
    go_wp2_with fail
    first
      | (refine bodyPost_ret (v := .tuple #[.agg #[.int .i64 key, .int .i64 pages, .slice A us.length c], .int .i64 pg, .int .i64 pq]) (by simp [results, Try.results64, go_sem, u0, u1, u2]) rfl ?_
         exact ⟨key, pages, us, A, c, pg, pq, rfl, hus, hoH.out.mono (by omega) (by simp only [size_setCell]; omega), hwH.out⟩)
      | (refine bodyPost_ret (v := .tuple #[.agg #[.int .i64 key, .int .i64 pages, .slice A us.length c], .int .i64 pq, .int .i64 pg]) (by simp [results, Try.results64, go_sem, u0, u1, u2]) rfl ?_
         exact ⟨key, pages, us, A, c, pq, pg, rfl, hus, hoH.out.mono (by omega) (by simp only [size_setCell]; omega), hwH.out⟩)
set_option maxRecDepth 100000 in
set_option maxHeartbeats 4000000 in
theorem drawUseForLength_any (A0 : Option Addr) (n c0 : Nat) (w : World) (hcd : CodeAt w w.heap.size A0 n) (hn : n ≤ 9223372036854775807) (hnc : n ≤ c0) :
    Calls Try.prog 67 #[.slice A0 n c0] w fun e w' => ∃ (key pages : Int) (us : List Int) (A : Option Addr) (c : Nat) (pg : Int), e = .returned (.tuple #[.agg #[.int .i64 key, .int .i64 pages, .slice A us.length c], .int .i64 pg]) ∧ us.length ≤ 100 ∧ (-1 ≤ pg ∧ pg ≤ 1201) ∧
      Own w' w.heap.size w'.heap.size (.slice A us.length c) us ∧ Below w.heap.size w w' := by
  obtain ⟨ZB, hZB⟩ : ∃ ZB, ZB = Obj.cells #[.int .i64 0, .int .i64 0, .slice none 0 0] 74 (0, 0) := ⟨_, rfl⟩
  have bZ := (show Bk (w.alloc ZB) w.heap.size 74 #[.int .i64 0, .int .i64 0, .slice none 0 0] by rw [hZB]; exact Bk.new w _ _).alloc (.cells #[.slice A0 n c0, .int .i64 0, .int .u64 0] 123)
  have hc0 := Cur.fresh ((hcd.up (Nat.le_succ _)).alloc ZB |>.up (by simp)) hn hnc
  rw [show (w.alloc ZB).heap.size = w.heap.size + 1 by simp] at hc0
  have hB0 := ((Below.refl w.heap.size w).alloc (Nat.le_refl _) ZB).alloc (by simp) (.cells #[.slice A0 n c0, .int .i64 0, .int .u64 0] 123)
  have hs0 := Lib.hid (show ((w.alloc ZB).alloc (.cells #[.slice A0 n c0, .int .i64 0, .int .u64 0] 123)).heap.size = w.heap.size + 2 by simp)
  go_enter Try.func67, Try.ntmps67
  go_wp2_with fail
  rw [← hZB]
  (with_reducible refine (keyBook_any (w.heap.size + 1) 0 _ hc0 (by omega)).mono ?_)
  rintro e w1 ⟨key, pages, us, A, c, rfl, hpg, hus, hown, hc1, hf1⟩
  have hB1 := hB0.trans (hf1.below (B := w.heap.size) (by omega) (by have := hs0.out; omega))
  have hl1 : w.heap.size + 2 ≤ w1.heap.size := by have := hf1.size; have := hs0.out; omega
  have bZ1 := bZ.fr hf1 (by omega)
  have hown1 : Own w1 (w.heap.size + 2) w1.heap.size (.slice A us.length c) us := by rw [← hs0.out]; exact hown
  obtain ⟨o1, ho1⟩ : ∃ o, o = Obj.cells #[.int .i64 1201, .int .i64 (-1)] 3 (0, 0) := ⟨_, rfl⟩
  have hr1 : Rd (w1.alloc o1) w1.heap.size (w1.heap.size + 1) (some ⟨w1.heap.size, 0, none⟩) [1201, -1] := by rw [ho1]; exact Rd.one w1 _ _ [1201, -1] rfl
  have bZ2 := bZ1.alloc o1
  have hc2 := hc1.alloc o1
  have hB2 := hB1.alloc (by omega) o1
  have hown2 := hown1.alloc o1
  have hs2 := Lib.hid (show (w1.alloc o1).heap.size = w1.heap.size + 1 by simp)
  clear bZ hc0 hB0 hf1 hB1 bZ1 hown hown1 hc1
  go_wp2_with fail
  rw [← ho1]
  (with_reducible refine (among_any (w.heap.size + 1) 300 [1201, -1] _ 2 _ _ hc2 (by omega) hr1 rfl (by simp) (by simp) (.inr (by omega))).mono ?_)
  rintro e w3 ⟨bad, rfl, hbad, hc3, hf3, hs3⟩
  have hbd : -1 ≤ bad ∧ bad ≤ 1201 := by simp at hbad; omega
  have hs3H := Lib.hid (hs3.trans hs2.out)
  have hl3 : w1.heap.size + 1 ≤ w3.heap.size := by have := hs3H.out; omega
  have hB3 := hB2.trans (hf3.below (B := w.heap.size) (by omega) (by have := hs2.out; omega))
  have hown3 := hown2.fr hf3 (.inr (by omega))
  have bZ3 := bZ2.fr hf3 (by omega)
  obtain ⟨o3, ho3⟩ : ∃ o, o = Obj.cells #[.int .i64 0, .int .i64 1, .int .i64 20, .int .i64 21, .int .i64 60, .int .i64 100, .int .i64 1200, .int .i64 bad] 3 (0, 0) := ⟨_, rfl⟩
  have hr3 : Rd (w3.alloc o3) w3.heap.size (w3.heap.size + 1) (some ⟨w3.heap.size, 0, none⟩) [0, 1, 20, 21, 60, 100, 1200, bad] := by rw [ho3]; exact Rd.one w3 _ _ [0, 1, 20, 21, 60, 100, 1200, bad] rfl
  have bZ4 := bZ3.alloc o3
  have hc4 := hc3.alloc o3
  have hB4 := hB3.alloc (by omega) o3
  have hown4 := hown3.alloc o3
  have hs4 := Lib.hid (show (w3.alloc o3).heap.size = w3.heap.size + 1 by simp)
  clear bZ2 hc2 hB2 hf3 hB3 bZ3 hown2 hown3 hc3 hs3 hr1 ho1 hbad
  go_wp2_with fail
  rw [← ho3]
  (with_reducible refine (among_any (w.heap.size + 1) 302 [0, 1, 20, 21, 60, 100, 1200, bad] _ 8 _ _ hc4 (by omega) hr3 rfl (by simp) (by simp) (.inr (by omega))).mono ?_)
  rintro e w5 ⟨pg, rfl, hpgm, hc5, hf5, hs5⟩
  have hpgb : -1 ≤ pg ∧ pg ≤ 1201 := by simp at hpgm; omega
  have hs5H := Lib.hid (hs5.trans hs4.out)
  have hl5 : w3.heap.size + 1 ≤ w5.heap.size := by have := hs5H.out; omega
  have hB5 := hB4.trans (hf5.below (B := w.heap.size) (by omega) (by have := hs4.out; omega))
  have hown5 := hown4.fr hf5 (.inr (by omega))
  have bZ5 := bZ4.fr hf5 (by omega)
  have u0 := bZ5.cell 0
  have u1 := bZ5.cell 1
  have u2 := bZ5.cell 2
  have g0 := bZ5.frozen 0
  have g1 := bZ5.frozen 1
  have g2 := bZ5.frozen 2
  have hzl := bZ5.lt
  simp at u0 u1 u2
  have hwH := Lib.hid (((hB5.setCell (p := ⟨w.heap.size, 0, none⟩) (Nat.le_refl _) (.int .i64 key)).setCell (p := ⟨w.heap.size, 1, none⟩) (Nat.le_refl _) (.int .i64 pages)).setCell (p := ⟨w.heap.size, 2, none⟩) (Nat.le_refl _) (.slice A us.length c))
  have hoH := Lib.hid (((hown5.setCell (p := ⟨w.heap.size, 0, none⟩) (.inl (by dsimp only; omega)) (.int .i64 key)).setCell (p := ⟨w.heap.size, 1, none⟩) (.inl (by dsimp only; omega)) (.int .i64 pages)).setCell (p := ⟨w.heap.size, 2, none⟩) (.inl (by dsimp only; omega)) (.slice A us.length c))
  clear hB4 hB5 hown4 hown5 bZ4 bZ5 hc4 hc5 hf5 hs5 hr3 ho3 hpgm
  go_wp2_with fail
  refine bodyPost_ret (v := .tuple #[.agg #[.int .i64 key, .int .i64 pages, .slice A us.length c], .int .i64 pg]) (by simp [results, Try.results67, go_sem, u0, u1, u2]) rfl ?_
  exact ⟨key, pages, us, A, c, pg, rfl, hus, hpgb, hoH.out.mono (by omega) (by simp only [size_setCell]; omega), hwH.out⟩
set_option maxRecDepth 100000 in
set_option maxHeartbeats 8000000 in
theorem drawPageMix_any (A0 : Option Addr) (n c0 : Nat) (w : World) (hcd : CodeAt w w.heap.size A0 n) (hn : n ≤ 9223372036854775807) (hnc : n ≤ c0) :
    Calls Try.prog 71 #[.slice A0 n c0] w fun e w' => ∃ (zs : List Int) (A : Option Addr) (c : Nat), e = .returned (.slice A zs.length c) ∧ zs.length ≤ 7 ∧ Own w' w.heap.size w'.heap.size (.slice A zs.length c) zs ∧ Below w.heap.size w w' := by
  have hc0 := Cur.fresh hcd hn hnc
  have hB0 := (Below.refl w.heap.size w).alloc (Nat.le_refl _) (.cells #[.slice A0 n c0, .int .i64 0, .int .u64 0] 123)
  obtain ⟨w0, hw0⟩ : ∃ u, u = w.alloc (.cells #[.slice A0 n c0, .int .i64 0, .int .u64 0] 123) := ⟨_, rfl⟩
  have hs0 := Lib.hid (show w0.heap.size = w.heap.size + 1 by rw [hw0]; simp)
  rw [← hw0] at hc0 hB0
  go_enter Try.func71, Try.ntmps71
  go_wp2_with fail
  rw [← hw0]
  clear hw0
  (with_reducible refine (pick_any w.heap.size 0 7 _ hc0 (by omega) (by omega)).mono ?_)
  rintro e w1 ⟨x, rfl, hx, hc1, hf1, hs1⟩
  have hxb : 0 ≤ x ∧ x ≤ 6 := by omega
  have hs1H := Lib.hid (hs1.trans hs0.out)
  clear hx hs1 hc0
  go_wp2_with fail
  go_loopw [4] (fun v wr => ∃ (zs : List Int) (A : Option Addr) (k c : Nat), v = .slice A k c ∧ zs.length = k ∧ (k : Int) ≤ x ∧ Own wr w1.heap.size wr.heap.size (.slice A k c) zs ∧ Cur wr w.heap.size (2 + 4 * k) ∧ Fr w.heap.size (w.heap.size + 1) w0 wr ∧ w1.heap.size ≤ wr.heap.size) (fun v _ => match v with | .slice _ k _ => 8 - k | _ => 0)
  case atStart => exact ⟨[], none, 0, 0, rfl, rfl, by omega, Own.nil, hc1, hf1, Nat.le_refl _⟩
  case round =>
    clear hc1 hf1
    obtain ⟨zs, A, k, c, rfl, hzk, hkx, ownr, hcr, hFr, hsr⟩ := hrel
    have hzkH := Lib.hid hzk
    clear hzk
    have hl0 := hs1H.out
    have hl1 : w.heap.size + 1 ≤ w1.heap.size := by omega
    clear hl0
    by_cases hlt : (k : Int) < x
    · go_wp2_with fail
      (with_reducible refine (pick_any w.heap.size (2 + 4 * k) 60000 _ hcr (by omega) (by omega)).mono ?_)
      rintro e w2 ⟨y, rfl, hy, hc2, hf2, hs2⟩
      have hs2H := Lib.hid hs2
      have hl2 : wr.heap.size ≤ w2.heap.size := by omega
      have hF2 := hFr.trans hf2
      have own2 := (ownr.fr hf2 (.inr (by omega))).mono (Nat.le_refl _) hl2
      obtain ⟨o2, ho2⟩ : ∃ o, o = Obj.cells #[.int .i64 0, .int .i64 5, .int .i64 y, .int .i64 1000000000] 3 (0, 0) := ⟨_, rfl⟩
      have hr2 : Rd (w2.alloc o2) w2.heap.size (w2.heap.size + 1) (some ⟨w2.heap.size, 0, none⟩) [0, 5, y, 1000000000] := by rw [ho2]; exact Rd.one w2 _ _ [0, 5, y, 1000000000] rfl
      have hc2a := hc2.alloc o2
      have hF2a := hF2.alloc o2
      have own2a := own2.alloc o2
      have hs2a := Lib.hid (show (w2.alloc o2).heap.size = w2.heap.size + 1 by simp)
      clear hf2 hs2 hc2 hF2 own2 ownr hcr hFr
      go_wp2_with fail
      rw [← ho2]
      (with_reducible refine (among_any w.heap.size (2 + 4 * k + 2) [0, 5, y, 1000000000] _ 4 _ _ hc2a (by omega) hr2 rfl (by simp) (by simp) (.inr (by omega))).mono ?_)
      rintro e w3 ⟨kk, rfl, hkk, hc3, hf3, hs3⟩
      have hs3H := Lib.hid (hs3.trans hs2a.out)
      have hl3 : w2.heap.size + 1 ≤ w3.heap.size := by have := hs3H.out; omega
      have hF3H := Lib.hid (hF2a.trans hf3)
      have own3H' := Lib.hid ((own2a.fr hf3 (.inr (by omega))))
      have hc3H := Lib.hid hc3
      clear hf3 hs3 hc3 hF2a own2a hc2a hr2 ho2 hkk
      go_wp2_with (at_builtin; refine wp_append_ints rfl (.tmp 15) (.tmp 21) (v := .slice A k c) rfl rfl (own3H'.out.alloc _) (ys := [kk]) rfl ((Rd.one w3 _ _ _ rfl).mono (Nat.zero_le _) (by simp)) (by have := hzkH.out; simp; omega) (by simp; omega) ?_; intro v8 w8 ho8 hg8 hb8 hat8; (obtain ⟨A8, c8, rfl, -, -⟩ := ho8.rd); (have hl8 : (zs ++ [kk]).length = k + 1 := by have h9 := hzkH.out; rw [List.length_append, h9]; rfl); rw [hl8] at ho8 ⊢)
      have hlw8 : w3.heap.size ≤ w8.heap.size := by have := hb8.size; simp at this; omega
      have hF9 := (hF3H.out.alloc (.cells #[.int .i64 kk] 3)).then_below hb8 (by have := hs0.out; omega)
      have hc9 := (hc3H.out.alloc (.cells #[.int .i64 kk] 3)).below hb8 (by omega)
      refine ⟨⟨zs ++ [kk], A8, k + 1, c8, rfl, hl8, by omega, ho8, hc9.le (by omega), hF9, by omega⟩, ?_⟩
      simp
      omega
    · have hkx2 : (k : Int) = x := by omega
      subst hkx2
      obtain ⟨wl, rfl⟩ : ∃ wl, wl = wr := ⟨_, rfl⟩
      have hBr := hB0.trans (hFr.below (B := w.heap.size) (Nat.le_refl _) (by have := hs0.out; omega))
      have hk6 : k ≤ 6 := by omega
      have hwl : w.heap.size ≤ w1.heap.size := by omega
      by_cases hz : (0 : Int) < (k : Int)
      · go_wp2_with fail
        (with_reducible refine (one_any w.heap.size (2 + 4 * k) 16 _ hcr (by omega) (by omega)).mono ?_)
        rintro e w2 ⟨v, rfl, hc2, hf2, hs2⟩
        have hs2H := Lib.hid hs2
        have hl2 : wl.heap.size ≤ w2.heap.size := by omega
        have hB2 := hBr.trans (hf2.below (B := w.heap.size) (Nat.le_refl _) (by omega))
        have own2 := (ownr.fr hf2 (.inr (by omega))).mono (Nat.le_refl _) hl2
        clear hf2 hs2 hcr ownr hBr hFr hB0
        cases v with
        | false =>
          have hBH := Lib.hid hB2
          have hoH := Lib.hid own2
          clear hB2 own2 hc2
          go_wp2_with fail
          go_ret
          have hzl := hzkH.out
          exact ⟨zs, A, c, by rw [hzl]; rfl, by omega, by rw [hzl]; exact hoH.out.mono hwl (Nat.le_refl _), hBH.out⟩
        | true =>
          obtain ⟨gg, cc, he, hg1, hg2, hg3, hcell, hfro⟩ := own2.at_ (by have := hzkH.out; omega)
          have he2 : A = some ⟨gg, 0, none⟩ ∧ k = zs.length ∧ c = cc := by injection he with e1 e2 e3; exact ⟨e1, e2, e3⟩
          obtain ⟨rfl, -, rfl⟩ := he2
          clear he
          obtain ⟨o3, ho3⟩ : ∃ o, o = Obj.cells #[.int .i64 (-1), .int .i64 1000000001] 3 (0, 0) := ⟨_, rfl⟩
          have hr3 : Rd (w2.alloc o3) w2.heap.size (w2.heap.size + 1) (some ⟨w2.heap.size, 0, none⟩) [-1, 1000000001] := by rw [ho3]; exact Rd.one w2 _ _ [-1, 1000000001] rfl
          have hc3 := hc2.alloc o3
          have hB3 := hB2.alloc (by omega) o3
          have own3 := own2.alloc o3
          have hs3 := Lib.hid (show (w2.alloc o3).heap.size = w2.heap.size + 1 by simp)
          clear own2 hB2 hc2 hcell hfro
          go_wp2_with fail
          rw [← ho3]
          (with_reducible refine (among_any w.heap.size (2 + 4 * k + 2) [-1, 1000000001] _ 2 _ _ hc3 (by omega) hr3 rfl (by simp) (by simp) (.inr (by omega))).mono ?_)
          rintro e w4 ⟨kk, rfl, hkk, hc4, hf4, hs4⟩
          have hs4H := Lib.hid (hs4.trans hs3.out)
          have hl4 : w2.heap.size + 1 ≤ w4.heap.size := by have := hs4H.out; omega
          have hB4 := hB3.trans (hf4.below (B := w.heap.size) (Nat.le_refl _) (by have := hs3.out; omega))
          have own4 := own3.fr hf4 (.inr (by omega))
          obtain ⟨gg', cc', he, -, -, hg4, hcell, hfro⟩ := own4.at_ (by have := hzkH.out; omega)
          have he2 : gg = gg' := by injection he with e1 e2 e3; injection e1 with e1; injection e1
          subst he2
          have x0 := hcell 0 (by have := hzkH.out; omega)
          have f0 := hfro 0
          have hk0 : (0 : Int) < (k : Int) ∧ 0 < k := by omega
          have hoH := Lib.hid (own4.stored (j := 0) kk)
          have hBH := Lib.hid (hB4.setCell (p := ⟨gg, 0, none⟩) (by dsimp only; omega) (.int .i64 kk))
          clear own4 hB4 hf4 hs4 hB3 own3 hc3 hc4 hr3 ho3 hkk hcell hfro he
          go_wp2_with fail
          go_ret
          have hzl := hzkH.out
          exact ⟨zs.set 0 kk, some ⟨gg, 0, none⟩, c, by rw [List.length_set, hzl]; rfl, by rw [List.length_set]; omega, by rw [List.length_set, hzl]; exact hoH.out.mono hwl (by rw [size_setCell]; omega), hBH.out⟩
      · have hoH := Lib.hid ownr
        have hBH := Lib.hid hBr
        clear ownr hBr hFr hB0 hcr
        go_wp2_with fail
        go_ret
        have hzl := hzkH.out
        exact ⟨zs, A, c, by rw [hzl]; rfl, by omega, by rw [hzl]; exact hoH.out.mono hwl (Nat.le_refl _), hBH.out⟩
end Go.Proofs.Ytbagliaelolhcaa
