/-
  Contracts of the draws of logs. The conditions are bounds on lengths.
-/
import Derived.Test.YtbagliaelolhcaaCurLg
import Derived.Test.YtbagliaelolhcaaCurP
import Derived.Test.YtbagliaelolhcaaLawB
namespace Go.Proofs.Ytbagliaelolhcaa
open Go.RowKit Go.ChangeShapes Go.WideShapes
set_option linter.unusedVariables false
set_option linter.unusedSimpArgs false

theorem CodeAt.st {w w' : World} {A : Option Addr} {n : Nat} (h : CodeAt w w.heap.size A n) (hb : Below w.heap.size w w') : CodeAt w' w'.heap.size A n := (h.keep fun b o _ h2 => World.cell?_of_block (w := w) (hb.block b h2)).up hb.size
set_option maxRecDepth 100000 in
set_option maxHeartbeats 4000000 in
theorem drawIsLog_any (A0 : Option Addr) (n c0 : Nat) (w : World) (hcd : CodeAt w w.heap.size A0 n) (hn : n ≤ 9223372036854775807) (hnc : n ≤ c0) :
    Calls Try.prog 110 #[.slice A0 n c0] w fun e w' => ∃ (es : List Ent) (A : Option Addr) (c : Nat), e = .returned (.slice A es.length c) ∧ (es.length ≤ 31 ∧ eszL es ≤ 600 ∧ es.length ≤ c) ∧ RdE w' w.heap.size w'.heap.size A es ∧ Below w.heap.size w w' := by
  go_enter Try.func110, Try.ntmps110
  go_wp2_with fail
  obtain ⟨w1, hw1⟩ : ∃ u, u = w.alloc (.cells #[.slice A0 n c0, .int .i64 0, .int .u64 0] 123) := ⟨_, rfl⟩
  rw [← hw1]
  have e1 : w1.heap.size = w.heap.size + 1 := by rw [hw1]; simp
  have s1 : w.heap.size + 1 ≤ w1.heap.size := by omega
  have b1 : Below w.heap.size w w1 := by rw [hw1]; exact (Below.refl _ _).alloc (Nat.le_refl _) _
  have hc : Cur w1 w.heap.size 0 := by rw [hw1]; exact Cur.fresh hcd hn hnc
  have hF := Fr.refl w.heap.size (w.heap.size + 1) w1
  clear hw1
  (with_reducible refine (log_any w.heap.size 0 _ hc (by omega)).mono ?_)
  rintro e w2 ⟨es, A, c, rfl, hb, hr, hcn, f2⟩
  clear hc
  have hc := hcn
  clear hcn
  have s2 : w1.heap.size ≤ w2.heap.size := f2.size
  replace hF := hF.trans f2
  clear f2
  have hB := Lib.hid (b1.trans (hF.below (B := w.heap.size) (Nat.le_refl _) (by omega)))
  have hrH := Lib.hid (hr.mono (show w.heap.size ≤ _ by omega) (Nat.le_refl _))
  clear hc hF hr
  go_wp2_with fail
  go_ret
  exact ⟨es, A, c, rfl, hb, hrH.out, hB.out⟩
set_option maxRecDepth 100000 in
set_option maxHeartbeats 4000000 in
theorem drawChangedEntries_any (A0 : Option Addr) (n c0 : Nat) (w : World) (hcd : CodeAt w w.heap.size A0 n) (hn : n ≤ 9223372036854775807) (hnc : n ≤ c0) :
    Calls Try.prog 32 #[.slice A0 n c0] w fun e w' => ∃ (es : List Ent) (A : Option Addr) (c : Nat), e = .returned (.slice A es.length c) ∧ (es.length ≤ 31 ∧ eszL es ≤ 600 ∧ es.length ≤ c) ∧ RdE w' w.heap.size w'.heap.size A es ∧ Below w.heap.size w w' := by
  go_enter Try.func32, Try.ntmps32
  go_wp2_with fail
  (with_reducible refine (drawIsLog_any A0 n c0 _ hcd hn hnc).mono ?_)
  rintro e w1 ⟨es, A, c, rfl, hb, hr, b1⟩
  have hrH := Lib.hid hr
  have hB := Lib.hid b1
  clear hr b1
  go_wp2_with fail
  go_ret
  exact ⟨es, A, c, rfl, hb, hrH.out, hB.out⟩
set_option maxRecDepth 100000 in
set_option maxHeartbeats 4000000 in
theorem drawEntriesFrom_any (A0 : Option Addr) (n c0 : Nat) (w : World) (hcd : CodeAt w w.heap.size A0 n) (hn : n ≤ 9223372036854775807) (hnc : n ≤ c0) :
    Calls Try.prog 39 #[.slice A0 n c0] w fun e w' => ∃ (es : List Ent) (A : Option Addr) (c : Nat) (f t : Int), e = .returned (.tuple #[.slice A es.length c, .int .i64 f, .int .i64 t]) ∧ (es.length ≤ 31 ∧ eszL es ≤ 600 ∧ es.length ≤ c) ∧ ((-1 ≤ f ∧ f ≤ 10001) ∧ -1 ≤ t ∧ t ≤ 10031) ∧ RdE w' w.heap.size w'.heap.size A es ∧ Below w.heap.size w w' := by
  go_enter Try.func39, Try.ntmps39
  go_wp2_with fail
  obtain ⟨w1, hw1⟩ : ∃ u, u = w.alloc (.cells #[.slice A0 n c0, .int .i64 0, .int .u64 0] 123) := ⟨_, rfl⟩
  rw [← hw1]
  have e1 : w1.heap.size = w.heap.size + 1 := by rw [hw1]; simp
  have s1 : w.heap.size + 1 ≤ w1.heap.size := by omega
  have b1 : Below w.heap.size w w1 := by rw [hw1]; exact (Below.refl _ _).alloc (Nat.le_refl _) _
  have hc : Cur w1 w.heap.size 0 := by rw [hw1]; exact Cur.fresh hcd hn hnc
  have hF := Fr.refl w.heap.size (w.heap.size + 1) w1
  clear hw1
  (with_reducible refine (pick_any w.heap.size 0 100 _ hc (by omega) (by omega)).mono ?_)
  rintro e w2 ⟨x, rfl, hx, hcn, f2, z2⟩
  clear hc
  have hc := hcn
  clear hcn
  have s2 : w1.heap.size ≤ w2.heap.size := f2.size
  replace hF := hF.trans f2
  clear f2 z2
  have hxb : 0 ≤ x ∧ x ≤ 99 := by omega
  clear hx
  go_wp2_with fail
  obtain ⟨w3, hw3⟩ : ∃ u, u = w2.alloc (.cells #[.int .i64 10001, .int .i64 (-1)] 3) := ⟨_, rfl⟩
  rw [← hw3]
  have e3 : w3.heap.size = w2.heap.size + 1 := by rw [hw3]; simp
  have s3 : w2.heap.size + 1 ≤ w3.heap.size := by omega
  have b3 : Below w2.heap.size w2 w3 := by rw [hw3]; exact (Below.refl _ _).alloc (Nat.le_refl _) _
  have r3 : Rd w3 (w2.heap.size) (w2.heap.size + 1) (some ⟨w2.heap.size, 0, none⟩) [10001, -1] := by rw [hw3]; exact Rd.one _ _ _ _ rfl
  replace hF := hF.then_below b3 hF.size
  replace hc := hc.st b3
  replace e3 := Lib.hid e3
  clear b3 hw3
  (with_reducible refine (among_any w.heap.size (2) [10001, -1] _ 2 _ _ hc (by omega) r3 rfl (by simp) (by simp) (by omega)).mono ?_)
  rintro e w4 ⟨y, rfl, hy, hcn, f4, z4⟩
  clear hc
  have hc := hcn
  clear hcn
  have s4 : w3.heap.size ≤ w4.heap.size := f4.size
  replace hF := hF.trans f4
  replace r3 := r3.fr f4 (by omega)
  clear f4 z4
  clear r3
  have hyb : -1 ≤ y ∧ y ≤ 10001 := by simp at hy; omega
  clear hy
  go_wp2_with fail
  obtain ⟨w5, hw5⟩ : ∃ u, u = w4.alloc (.cells #[.int .i64 0, .int .i64 10, .int .i64 x, .int .i64 10000, .int .i64 y] 3) := ⟨_, rfl⟩
  rw [← hw5]
  have e5 : w5.heap.size = w4.heap.size + 1 := by rw [hw5]; simp
  have s5 : w4.heap.size + 1 ≤ w5.heap.size := by omega
  have b5 : Below w4.heap.size w4 w5 := by rw [hw5]; exact (Below.refl _ _).alloc (Nat.le_refl _) _
  have r5 : Rd w5 (w4.heap.size) (w4.heap.size + 1) (some ⟨w4.heap.size, 0, none⟩) [0, 10, x, 10000, y] := by rw [hw5]; exact Rd.one _ _ _ _ rfl
  replace hF := hF.then_below b5 hF.size
  replace hc := hc.st b5
  replace e5 := Lib.hid e5
  clear b5 hw5
  (with_reducible refine (among_any w.heap.size (4) [0, 10, x, 10000, y] _ 5 _ _ hc (by omega) r5 rfl (by simp) (by simp) (by omega)).mono ?_)
  rintro e w6 ⟨f, rfl, hf, hcn, f6, z6⟩
  clear hc
  have hc := hcn
  clear hcn
  have s6 : w5.heap.size ≤ w6.heap.size := f6.size
  replace hF := hF.trans f6
  replace r5 := r5.fr f6 (by omega)
  clear f6 z6
  clear r5
  have hfb : -1 ≤ f ∧ f ≤ 10001 := by simp at hf; omega
  clear hf hxb hyb
  have v1 : IntKind.i64.wrap (f + 30) = f + 30 := IntWalk.i64_in _ (by omega)
  go_wp2_with fail
  (with_reducible refine (log_any w.heap.size 6 _ hc (by omega)).mono ?_)
  rintro e w7 ⟨es, A, c, rfl, hb, hr, hcn, f7⟩
  clear hc
  have hc := hcn
  clear hcn
  have s7 : w6.heap.size ≤ w7.heap.size := f7.size
  replace hF := hF.trans f7
  clear f7
  go_wp2_with fail
  obtain ⟨w8, hw8⟩ : ∃ u, u = w7.alloc (.cells #[.int .i64 f, .int .i64 (f + 30), .int .i64 100, .int .i64 10000, .int .i64 10001, .int .i64 (-1)] 3) := ⟨_, rfl⟩
  rw [← hw8]
  have e8 : w8.heap.size = w7.heap.size + 1 := by rw [hw8]; simp
  have s8 : w7.heap.size + 1 ≤ w8.heap.size := by omega
  have b8 : Below w7.heap.size w7 w8 := by rw [hw8]; exact (Below.refl _ _).alloc (Nat.le_refl _) _
  have r8 : Rd w8 (w7.heap.size) (w7.heap.size + 1) (some ⟨w7.heap.size, 0, none⟩) [f, f + 30, 100, 10000, 10001, -1] := by rw [hw8]; exact Rd.one _ _ _ _ rfl
  replace hF := hF.then_below b8 hF.size
  replace hc := hc.st b8
  replace hr := hr.st b8
  replace e8 := Lib.hid e8
  clear b8 hw8
  (with_reducible refine (among_any w.heap.size (2006) [f, f + 30, 100, 10000, 10001, -1] _ 6 _ _ hc (by omega) r8 rfl (by simp) (by simp) (by omega)).mono ?_)
  rintro e w9 ⟨t, rfl, ht, hcn, f9, z9⟩
  clear hc
  have hc := hcn
  clear hcn
  have s9 : w8.heap.size ≤ w9.heap.size := f9.size
  replace hF := hF.trans f9
  replace hr := hr.fr f9 (by omega)
  replace r8 := r8.fr f9 (by omega)
  clear f9 z9
  clear r8
  have htb : -1 ≤ t ∧ t ≤ 10031 := by simp at ht; omega
  clear ht v1
  have hB := Lib.hid (b1.trans (hF.below (B := w.heap.size) (Nat.le_refl _) (by omega)))
  have hrH := Lib.hid (hr.mono (show w.heap.size ≤ _ by omega) (show _ ≤ w9.heap.size by omega))
  clear hc hF hr
  go_wp2_with fail
  go_ret3
  exact ⟨es, A, c, f, t, rfl, hb, ⟨hfb, htb⟩, hrH.out, hB.out⟩
set_option maxRecDepth 100000 in
set_option maxHeartbeats 4000000 in
theorem drawIsEntry_any (A0 : Option Addr) (n c0 : Nat) (w : World) (hcd : CodeAt w w.heap.size A0 n) (hn : n ≤ 9223372036854775807) (hnc : n ≤ c0) :
    Calls Try.prog 41 #[.slice A0 n c0] w fun e w' => ∃ (t m q : Int) (ys zs : List Int) (A : Option Addr) (c : Nat) (B : Option Addr) (d : Nat), e = .returned (.agg #[.int .i64 t, .int .i64 m, .int .i64 q, .slice A ys.length c, .slice B zs.length d]) ∧ (ys.length ≤ 9 ∧ zs.length ≤ 9) ∧ Rd w' w.heap.size w'.heap.size A ys ∧ Rd w' w.heap.size w'.heap.size B zs ∧ Below w.heap.size w w' := by
  go_enter Try.func41, Try.ntmps41
  go_wp2_with fail
  have bb := Below.refl w.heap.size w
  obtain ⟨w1, hw1⟩ : ∃ u, u = w.alloc (.cells #[.int .i64 0, .int .i64 0, .int .i64 0, .slice none 0 0, .slice none 0 0] 42) := ⟨_, rfl⟩
  rw [← hw1]
  have e1 : w1.heap.size = w.heap.size + 1 := by rw [hw1]; simp
  have s1 : w.heap.size + 1 ≤ w1.heap.size := by omega
  have b1 : Below w.heap.size w w1 := by rw [hw1]; exact (Below.refl _ _).alloc (Nat.le_refl _) _
  have bZ : Bk w1 (w.heap.size) 42 #[.int .i64 0, .int .i64 0, .int .i64 0, .slice none 0 0, .slice none 0 0] := by rw [hw1]; exact Bk.new _ _ _
  replace bb := bb.trans (Below.mono b1 bb.size)
  replace e1 := Lib.hid e1
  clear b1 hw1
  have hcd1 : CodeAt w1 w1.heap.size A0 n := (hcd.keep (w' := w1) fun b o h1 h2 => World.cell?_of_block (w := w) (bb.block b h2)).up (by omega)
  obtain ⟨w2, hw2⟩ : ∃ u, u = w1.alloc (.cells #[.slice A0 n c0, .int .i64 0, .int .u64 0] 123) := ⟨_, rfl⟩
  rw [← hw2]
  have e2 : w2.heap.size = w1.heap.size + 1 := by rw [hw2]; simp
  have s2 : w1.heap.size + 1 ≤ w2.heap.size := by omega
  have b2 : Below w.heap.size w w2 := by rw [hw2]; exact bb.alloc (by omega) _
  have hc : Cur w2 (w.heap.size + 1) 0 := by have h := Cur.fresh (c := c0) hcd1 hn hnc; rw [← hw2] at h; have hh : w1.heap.size = w.heap.size + 1 := e1.out; rw [← hh]; exact h
  replace bZ : Bk w2 w.heap.size 42 #[.int .i64 0, .int .i64 0, .int .i64 0, .slice none 0 0, .slice none 0 0] := by rw [hw2]; exact bZ.alloc _
  have hF := Fr.refl (w.heap.size + 1) (w.heap.size + 2) w2
  clear hw2 bb
  (with_reducible refine (pick_any (w.heap.size + 1) 0 100 _ hc (by omega) (by omega)).mono ?_)
  rintro e w3 ⟨x, rfl, hx, hcn, f3, z3⟩
  clear hc
  have hc := hcn
  clear hcn
  have s3 : w2.heap.size ≤ w3.heap.size := f3.size
  replace hF := hF.trans f3
  replace bZ := bZ.fr f3 (by omega)
  clear f3 z3
  clear hx
  go_wp2_with fail
  (with_reducible refine (entry_any (w.heap.size + 1) 2 x _ hc (by omega)).mono ?_)
  rintro e w4 ⟨t, m, q, ys, zs, A, c, B, d, rfl, ⟨hy9, hz9, -⟩, oy, oz, hcn, f4⟩
  clear hc
  have hc := hcn
  clear hcn
  have s4 : w3.heap.size ≤ w4.heap.size := f4.size
  replace hF := hF.trans f4
  replace bZ := bZ.fr f4 (by omega)
  clear f4
  have z0 := bZ.cell 0
  have g0 := bZ.frozen 0
  have z1 := bZ.cell 1
  have g1 := bZ.frozen 1
  have z2 := bZ.cell 2
  have g2 := bZ.frozen 2
  have z3 := bZ.cell 3
  have g3 := bZ.frozen 3
  have z4 := bZ.cell 4
  have g4 := bZ.frozen 4
  have zl := bZ.lt
  simp at z0 z1 z2 z3 z4
  have hBH := Lib.hid ((((((b2.trans (hF.below (B := w.heap.size) (by omega) (by omega))).setCell (p := ⟨w.heap.size, 0, none⟩) (Nat.le_refl _) (.int .i64 t)).setCell (p := ⟨w.heap.size, 1, none⟩) (Nat.le_refl _) (.int .i64 m)).setCell (p := ⟨w.heap.size, 2, none⟩) (Nat.le_refl _) (.int .i64 q)).setCell (p := ⟨w.heap.size, 3, none⟩) (Nat.le_refl _) (.slice A ys.length c)).setCell (p := ⟨w.heap.size, 4, none⟩) (Nat.le_refl _) (.slice B zs.length d))
  have ryH := Lib.hid (((((oy.rd'.setAny (p := ⟨w.heap.size, 0, none⟩) (by dsimp only; omega) (.int .i64 t)).setAny (p := ⟨w.heap.size, 1, none⟩) (by dsimp only; omega) (.int .i64 m)).setAny (p := ⟨w.heap.size, 2, none⟩) (by dsimp only; omega) (.int .i64 q)).setAny (p := ⟨w.heap.size, 3, none⟩) (by dsimp only; omega) (.slice A ys.length c)).setAny (p := ⟨w.heap.size, 4, none⟩) (by dsimp only; omega) (.slice B zs.length d))
  have rzH := Lib.hid (((((oz.rd'.setAny (p := ⟨w.heap.size, 0, none⟩) (by dsimp only; omega) (.int .i64 t)).setAny (p := ⟨w.heap.size, 1, none⟩) (by dsimp only; omega) (.int .i64 m)).setAny (p := ⟨w.heap.size, 2, none⟩) (by dsimp only; omega) (.int .i64 q)).setAny (p := ⟨w.heap.size, 3, none⟩) (by dsimp only; omega) (.slice A ys.length c)).setAny (p := ⟨w.heap.size, 4, none⟩) (by dsimp only; omega) (.slice B zs.length d))
  clear bZ oy oz hc hF
  go_wp2_with fail
  refine bodyPost_ret (v := .agg #[.int .i64 t, .int .i64 m, .int .i64 q, .slice A ys.length c, .slice B zs.length d]) (by simp [results, Try.results41, go_sem, z0, z1, z2, z3, z4]) rfl ?_
  exact ⟨t, m, q, ys, zs, A, c, B, d, rfl, ⟨hy9, hz9⟩, ryH.out.mono (by omega) (by simp only [size_setCell]; exact Nat.le_refl _), rzH.out.mono (by omega) (by simp only [size_setCell]; exact Nat.le_refl _), hBH.out⟩
set_option maxRecDepth 100000 in
set_option maxHeartbeats 4000000 in
theorem pSameLog_t (es : List Ent) (A A' : Option Addr) (k k' c c' : Nat) {l h l' h' : Nat} (w : World) (hk : k = es.length) (hk' : k' = es.length) (hx0 : RdE w l h A es) (hy0 : RdE w l' h' A' es) (hl : eszL es ≤ 1048576) :
    Calls Try.prog 40 #[.slice A k c, .slice A' k' c'] w fun e w' => e = .returned (.bool true) ∧ Below w.heap.size w w' := by
  subst hk hk'
  have hx := hx0.std
  have hy := hy0.std
  clear hx0 hy0
  have hel := esz_len es
  go_enter Try.func40, Try.ntmps40
  go_wp2_with fail
  go_loopw [13] (fun i wr => ∃ k : Nat, k ≤ es.length ∧ i = .int .i64 k ∧ Below w.heap.size w wr) (fun i _ => es.length - (intOf i).toNat)
  case atStart => exact ⟨0, Nat.zero_le _, rfl, Below.refl _ _⟩
  case round =>
    obtain ⟨k, hk, rfl, hbr⟩ := hrel
    by_cases hlt : k < es.length
    · obtain ⟨b, off, rfl, _, _, hc⟩ := (hx.below hbr (Nat.le_refl _)) (by omega)
      obtain ⟨A1, c1, A2, c2, x0, x1, x2, x3, x4, r1, r2⟩ := hc k hlt
      obtain ⟨b', off', rfl, _, _, hc'⟩ := (hy.below hbr (Nat.le_refl _)) (by omega)
      obtain ⟨A3, c3, A4, c4, y0, y1, y2, y3, y4, r3, r4⟩ := hc' k hlt
      have hat := esz_at es k hlt
      have i0 : (0 : Int) ≤ (k : Int) := by omega
      have i1 : (k : Int) < (es.length : Int) := by omega
      have q1 : es[k].seen.length ≤ 1048576 := by omega
      have q2 : es[k].shown.length ≤ 1048576 := by omega
      clear hc hc' hat
      generalize es[k] = ek at *
      have bb1 : b < wr.heap.size := World.block_lt_of_cell? wr _ x0
      have bb2 : b' < wr.heap.size := World.block_lt_of_cell? wr _ y0
      go_wp2_with fail
      simp only [List.append]
      go_region_held3 (fun w' => w'.cell? ⟨b, off + k * 5, none⟩ = some (.int .i64 ek.time) ∧ w'.cell? ⟨b, off + k * 5 + 1, none⟩ = some (.int .i64 ek.msg) ∧ w'.cell? ⟨b, off + k * 5 + 2, none⟩ = some (.int .i64 ek.part) ∧
          w'.cell? ⟨b, off + k * 5 + 3, none⟩ = some (.slice A1 ek.seen.length c1) ∧ w'.cell? ⟨b, off + k * 5 + 4, none⟩ = some (.slice A2 ek.shown.length c2) ∧
          w'.cell? ⟨b', off' + k * 5, none⟩ = some (.int .i64 ek.time) ∧ w'.cell? ⟨b', off' + k * 5 + 1, none⟩ = some (.int .i64 ek.msg) ∧ w'.cell? ⟨b', off' + k * 5 + 2, none⟩ = some (.int .i64 ek.part) ∧
          w'.cell? ⟨b', off' + k * 5 + 3, none⟩ = some (.slice A3 ek.seen.length c3) ∧ w'.cell? ⟨b', off' + k * 5 + 4, none⟩ = some (.slice A4 ek.shown.length c4))
        (((try go_split_ands); (try dsimp only); (repeat' apply And.intro) <;> (first | assumption | ((refine (hc7 _ _ ?_).trans ?_) <;> assumption) | ((refine (hc8 _ _ ?_).trans ((hc7 _ _ ?_).trans ?_)) <;> assumption))))
        (first
          | (go_at_call 37; ((with_reducible refine (sameInts_t ek.seen A1 A3 ek.seen.length ek.seen.length c1 c3 _ rfl rfl r1.drew r3.drew q1).mono ?_); rintro e w7 ⟨rfl, hb7⟩; (have hc7 := (bcell hb7).1); (have r2b := r2.drew.st hb7); (have r4b := r4.drew.st hb7); (have bb1b : b < w7.heap.size := Nat.lt_of_lt_of_le bb1 hb7.size); (have bb2b : b' < w7.heap.size := Nat.lt_of_lt_of_le bb2 hb7.size)))
          | (go_at_call 37; ((with_reducible refine (sameInts_t ek.shown A2 A4 ek.shown.length ek.shown.length c2 c4 _ rfl rfl r2b r4b q2).mono ?_); rintro e w8 ⟨rfl, hb8⟩; (have hc8 := (bcell hb8).1))))
      have hB2 := Lib.hid (hbr.drew.trans ((hb7.trans (hb8.mono hb7.size)).mono hbr.size))
      clear hb7 hb8 hc7 hc8 x0 x1 x2 x3 x4 y0 y1 y2 y3 y4 r1 r2 r3 r4 r2b r4b hbr bb1 bb2 bb1b bb2b
      go_wp2_with fail
      go_roundw
      case rel => exact ⟨k + 1, by omega, by go_num, hB2.out⟩
      case measure => simp [intOf]; omega
    · have hlt2 : ¬ ((k : Int) < (es.length : Int)) := by omega
      go_wp2_with fail
      go_ret
      exact ⟨rfl, hbr⟩
end Go.Proofs.Ytbagliaelolhcaa
