/-
  Contracts of the drawn logs. The conditions are bounds on how often the cursor has been asked.
-/
import Derived.Test.YtjhbffndiaggmaaGreatDoorBL7
import Derived.Deep.DeepCutAuto
import Derived.Deep.CutBlock
import Derived.Deep.RegionLaw
namespace Go.Proofs.YtjhbffndiaggmaaGreatDoor
open Go.RowKit Go.ChangeShapes Go.WideShapes
set_option linter.unusedVariables false
set_option linter.unusedSimpArgs false

section
variable {w w' : World} {lo hi : Nat} {A : Option Addr} {zs : List Int}
theorem Rd.setAny (h : Rd w lo hi A zs) {p : Addr} (hp : p.block < lo ∨ hi ≤ p.block) (u : Value) : Rd (w.setCell p u) lo hi A zs :=
  h.keep fun b o h1 h2 _ => World.cell?_setCell_other w p _ u (fun e => by subst e; simp at hp; omega)
theorem Own.at2 {g n c j : Nat} (h : Own w lo hi (.slice (some ⟨g, 0, none⟩) n c) zs) (hj : j < zs.length) : w.cell? ⟨g, j, none⟩ = some (.int .i64 zs[j]) ∧ w.frozen? ⟨g, j, none⟩ = false ∧ lo ≤ g ∧ g < hi ∧ g < w.heap.size := by
  obtain ⟨g', c', he, h1, h2, h3, h4, h5⟩ := h.at_ (by omega)
  have : g = g' := by injection he with e1 e2 e3; injection e1 with e1; injection e1
  subst this
  exact ⟨h4 j hj, h5 j, h1, h2, h3⟩
end
set_option maxRecDepth 100000 in
set_option maxHeartbeats 4000000 in
theorem content_any (g N : Nat) (w : World) (hc : Cur w g N) (hN : N ≤ 4611686018427380000) :
    Calls Tryz.prog 196 #[.pointer (some ⟨g, 0, none⟩)] w fun e w' => ∃ x : Int, e = .returned (.int .i64 x) ∧ (1 ≤ x ∧ x ≤ 60) ∧ Cur w' g (N + 2) ∧ Fr g (g + 1) w w' ∧ w'.heap.size = w.heap.size := by
  go_enter Tryz.func196, Tryz.ntmps196
  go_wp2_with fail
  (with_reducible refine (pick_any g N 60 _ hc (by omega) (by omega)).mono ?_)
  rintro e w1 ⟨x, rfl, hx, hc1, f1, z1⟩
  have hxb : 0 ≤ x ∧ x ≤ 59 := by omega
  have v1 : IntKind.i64.wrap (1 + x) = 1 + x := IntWalk.i64_in _ (by omega)
  have hcH := Lib.hid hc1
  have hfH := Lib.hid f1
  have hzH := Lib.hid z1
  clear hx hc1 f1 z1
  go_wp2_with fail
  go_ret
  exact ⟨_, rfl, ⟨by omega, by omega⟩, hcH.out, hfH.out, hzH.out⟩
set_option maxRecDepth 100000 in
set_option maxHeartbeats 4000000 in
theorem contents_any (g N n : Nat) (z : Int) (w : World) (hc : Cur w g N) (hz : z = (n : Int)) (hN : N ≤ 4611686018427370000) (hn : n ≤ 9) :
    Calls Tryz.prog 167 #[.pointer (some ⟨g, 0, none⟩), .int .i64 z] w fun e w' => ∃ (zs : List Int) (A : Option Addr) (c : Nat), e = .returned (.slice A zs.length c) ∧ zs.length = n ∧ Own w' w.heap.size w'.heap.size (.slice A zs.length c) zs ∧ Cur w' g (N + 54) ∧ Fr g (g + 1) w w' := by
  subst hz
  have hgl := hc.lt
  have hF := Fr.refl g (g + 1) w
  go_enter Tryz.func167, Tryz.ntmps167
  go_wp2_with fail
  go_loopw [1, 5] (fun u v wr => ∃ (zs : List Int) (A : Option Addr) (m k c : Nat), u = .int .i64 (m : Int) ∧ v = .slice A k c ∧ zs.length = k ∧ k + m = n ∧ Own wr w.heap.size wr.heap.size (.slice A k c) zs ∧ Cur wr g (N + 6 * k) ∧ Fr g (g + 1) w wr) (fun u _ _ => (intOf u).toNat)
  case atStart => exact ⟨[], none, n, 0, 0, rfl, rfl, rfl, by omega, Own.nil, hc, hF⟩
  case round =>
    clear hc hF
    obtain ⟨zs, A, m, k, c, rfl, rfl, hzk, hkm, ho, hc, hF⟩ := hrel
    have hzkH := Lib.hid hzk
    have hgr := hc.lt
    have hsr : w.heap.size ≤ wr.heap.size := hF.size
    clear hzk
    by_cases hlt : 0 < m
    · have hlt2 : (0 : Int) < (m : Int) := by omega
      have v0' : wrap64 ((m : Int) - 1) = (m : Int) - 1 := IntWalk.wrap64_in _ (by omega)
      go_wp2_with fail
      (with_reducible refine (content_any g (N + 6 * k) _ hc (by omega)).mono ?_)
      rintro e w1 ⟨x, rfl, hx, hcn, f1, z1⟩
      clear hc
      have hc := hcn
      clear hcn
      have s1 : wr.heap.size ≤ w1.heap.size := f1.size
      replace hF := hF.trans f1
      replace ho := ho.fr f1 (by omega)
      clear f1 z1
      go_wp2_with fail
      (with_reducible refine (content_any g (N + 6 * k + 2) _ hc (by omega)).mono ?_)
      rintro e w2 ⟨y, rfl, hy, hcn, f2, z2⟩
      clear hc
      have hc := hcn
      clear hcn
      have s2 : w1.heap.size ≤ w2.heap.size := f2.size
      replace hF := hF.trans f2
      replace ho := ho.fr f2 (by omega)
      clear f2 z2
      go_wp2_with fail
      obtain ⟨w3, hw3⟩ : ∃ u, u = w2.alloc (.cells #[.int .i64 1, .int .i64 5, .int .i64 12, .int .i64 60, .int .i64 x, .int .i64 y] 3) := ⟨_, rfl⟩
      rw [← hw3]
      have e3 : w3.heap.size = w2.heap.size + 1 := by rw [hw3]; simp
      have s3 : w2.heap.size + 1 ≤ w3.heap.size := by omega
      have b3 : Below w2.heap.size w2 w3 := by rw [hw3]; exact (Below.refl _ _).alloc (Nat.le_refl _) _
      have r1 : Rd w3 (w2.heap.size) (w2.heap.size + 1) (some ⟨w2.heap.size, 0, none⟩) [1, 5, 12, 60, x, y] := by rw [hw3]; exact Rd.one _ _ _ _ rfl
      replace hF := hF.then_below b3 hF.size
      replace ho := ho.st b3
      replace hc := hc.st b3
      replace e3 := Lib.hid e3
      clear b3 hw3
      (with_reducible refine (among_any g (N + 6 * k + 2 + 2) [1, 5, 12, 60, x, y] _ 6 _ _ hc (by omega) r1 rfl (by simp) (by simp) (by omega)).mono ?_)
      rintro e w4 ⟨t, rfl, ht, hcn, f4, z4⟩
      clear hc
      have hc := hcn
      clear hcn
      have s4 : w3.heap.size ≤ w4.heap.size := f4.size
      replace hF := hF.trans f4
      replace ho := ho.fr f4 (by omega)
      replace r1 := r1.fr f4 (by omega)
      clear f4 z4
      clear r1
      clear ht
      have hcH := Lib.hid hc
      have hFH := Lib.hid hF
      have hoH := Lib.hid ho
      clear hc hF ho
      go_wp2_with (at_builtin; refine wp_append_ints rfl (.tmp 10) (.tmp 18) (v := .slice A k c) rfl rfl ((hoH.out.mono (Nat.le_refl _) (show wr.heap.size ≤ w4.heap.size by omega)).alloc _) (ys := [t]) rfl ((Rd.one w4 _ _ _ rfl).mono (Nat.zero_le _) (by simp)) (by have := hzkH.out; simp; omega) (by simp; omega) ?_; intro v8 w8 ho8 hg8 hb8 hat8; (obtain ⟨A8, c8, rfl, -, -⟩ := ho8.rd); (have hl8 : (zs ++ [t]).length = k + 1 := by have h9 := hzkH.out; rw [List.length_append, h9]; rfl); rw [hl8] at ho8 ⊢)
      have hlw8 : w4.heap.size ≤ w8.heap.size := by have := hb8.size; simp at this; omega
      have hF9 := (hFH.out.alloc (.cells #[.int .i64 t] 3)).then_below hb8 (by omega)
      have hc9 := (hcH.out.alloc (.cells #[.int .i64 t] 3)).below hb8 (by omega)
      refine ⟨⟨zs ++ [t], A8, m - 1, k + 1, c8, by first | (congr 1; omega) | go_num, rfl, hl8, by omega, ho8, hc9.le (by omega), hF9⟩, ?_⟩
      simp [intOf]
      omega
    · obtain rfl : m = 0 := by omega
      have hFH := Lib.hid hF
      have hoH := Lib.hid ho
      have hcH := Lib.hid hc
      clear hF ho hc
      go_wp2_with fail
      go_ret
      have hzl := hzkH.out
      exact ⟨zs, A, c, by rw [hzl]; rfl, by omega, by rw [hzl]; exact hoH.out, hcH.out.le (by omega), hFH.out⟩
set_option maxRecDepth 100000 in
set_option maxHeartbeats 4000000 in
theorem entry_any (g N : Nat) (t : Int) (w : World) (hc : Cur w g N) (hN : N ≤ 4611686018427360000) :
    Calls Tryz.prog 135 #[.pointer (some ⟨g, 0, none⟩), .int .i64 t] w fun e w' => ∃ (t' m q : Int) (ys zs : List Int) (A : Option Addr) (c : Nat) (B : Option Addr) (d : Nat), e = .returned (.agg #[.int .i64 t', .int .i64 m, .int .i64 q, .slice A ys.length c, .slice B zs.length d]) ∧ (ys.length ≤ 9 ∧ zs.length ≤ 9 ∧ 0 < zs.length) ∧ Own w' w.heap.size w'.heap.size (.slice A ys.length c) ys ∧ Own w' w.heap.size w'.heap.size (.slice B zs.length d) zs ∧ Cur w' g (N + 140) ∧ Fr g (g + 1) w w' := by
  have hgl := hc.lt
  have hF := Fr.refl g (g + 1) w
  go_enter Tryz.func135, Tryz.ntmps135
  go_wp2_with fail
  obtain ⟨w1, hw1⟩ : ∃ u, u = w.alloc (.cells #[.int .i64 0, .int .i64 0, .int .i64 0, .slice none 0 0, .slice none 0 0] 74) := ⟨_, rfl⟩
  rw [← hw1]
  have e1 : w1.heap.size = w.heap.size + 1 := by rw [hw1]; simp
  have s1 : w.heap.size + 1 ≤ w1.heap.size := by omega
  have b1 : Below w.heap.size w w1 := by rw [hw1]; exact (Below.refl _ _).alloc (Nat.le_refl _) _
  have bZ : Bk w1 (w.heap.size) 74 #[.int .i64 0, .int .i64 0, .int .i64 0, .slice none 0 0, .slice none 0 0] := by rw [hw1]; exact Bk.new _ _ _
  replace hc := hc.st b1
  replace hF := hF.then_below b1 hF.size
  replace e1 := Lib.hid e1
  clear b1 hw1
  obtain ⟨w2, hw2⟩ : ∃ u, u = w1.alloc (.cells #[.int .i64 1, .int .i64 7, .int .i64 12, .int .i64 999] 3) := ⟨_, rfl⟩
  rw [← hw2]
  have e2 : w2.heap.size = w1.heap.size + 1 := by rw [hw2]; simp
  have s2 : w1.heap.size + 1 ≤ w2.heap.size := by omega
  have b2 : Below w1.heap.size w1 w2 := by rw [hw2]; exact (Below.refl _ _).alloc (Nat.le_refl _) _
  have a2 : w1.heap.size = w.heap.size + 1 := by have h0 := e1.out; omega
  have r2 : Rd w2 (w.heap.size + 1) (w.heap.size + 1 + 1) (some ⟨w.heap.size + 1, 0, none⟩) [1, 7, 12, 999] := by rw [← a2]; rw [hw2]; exact Rd.one _ _ _ _ rfl
  replace hc := hc.st b2
  replace hF := hF.then_below b2 hF.size
  replace bZ := bZ.st b2
  replace e2 := Lib.hid e2
  clear b2 hw2 a2
  (with_reducible refine (among_any g (N) [1, 7, 12, 999] _ 4 _ _ hc (by omega) r2 rfl (by simp) (by simp) (by omega)).mono ?_)
  rintro e w3 ⟨m, rfl, hm, hcn, f3, z3⟩
  clear hc
  have hc := hcn
  clear hcn
  have s3 : w2.heap.size ≤ w3.heap.size := f3.size
  replace hF := hF.trans f3
  replace bZ := bZ.fr f3 (by omega)
  replace r2 := r2.fr f3 (by omega)
  clear f3 z3
  clear hm
  clear r2
  go_wp2_with fail
  (with_reducible refine (pick_any g (N + 2) 4 _ hc (by omega) (by omega)).mono ?_)
  rintro e w4 ⟨q, rfl, hq, hcn, f4, z4⟩
  clear hc
  have hc := hcn
  clear hcn
  have s4 : w3.heap.size ≤ w4.heap.size := f4.size
  replace hF := hF.trans f4
  replace bZ := bZ.fr f4 (by omega)
  clear f4 z4
  clear hq
  go_wp2_with fail
  (with_reducible refine (pick_any g (N + 4) 3 _ hc (by omega) (by omega)).mono ?_)
  rintro e w5 ⟨x, rfl, hx, hcn, f5, z5⟩
  clear hc
  have hc := hcn
  clear hcn
  have s5 : w4.heap.size ≤ w5.heap.size := f5.size
  replace hF := hF.trans f5
  replace bZ := bZ.fr f5 (by omega)
  clear f5 z5
  obtain ⟨n, rfl⟩ : ∃ n : Nat, x = (n : Int) := ⟨x.toNat, by omega⟩
  have hn2 : n ≤ 2 := by omega
  clear hx
  have v1 : IntKind.i64.wrap (1 + (n : Int)) = 1 + (n : Int) := IntWalk.i64_in _ (by omega)
  go_wp2_with fail
  (with_reducible refine (contents_any g (N + 6) (n + 1) (1 + (n : Int)) _ hc (by omega) (by omega) (by omega)).mono ?_)
  rintro e w6 ⟨ys, A, c, rfl, hys, oy, hcn, f6⟩
  clear hc
  have hc := hcn
  clear hcn
  have s6 : w5.heap.size ≤ w6.heap.size := f6.size
  replace hF := hF.trans f6
  replace bZ := bZ.fr f6 (by omega)
  clear f6
  have hy1 : 0 < ys.length := by omega
  have hy2 : ys.length ≤ 9 := by omega
  have ry : Own w6 (w.heap.size + 1) w6.heap.size (.slice A ys.length c) ys := oy.mono (by omega) (Nat.le_refl _)
  clear hys oy v1 hn2
  go_wp2_with fail
  obtain ⟨w7, hw7⟩ : ∃ u, u = w6.alloc (.cells #[.int .i64 t, .int .i64 m, .int .i64 q, .slice A ys.length c, .slice none 0 0] 74) := ⟨_, rfl⟩
  rw [← hw7]
  have e7 : w7.heap.size = w6.heap.size + 1 := by rw [hw7]; simp
  have s7 : w6.heap.size + 1 ≤ w7.heap.size := by omega
  have b7 : Below w6.heap.size w6 w7 := by rw [hw7]; exact (Below.refl _ _).alloc (Nat.le_refl _) _
  have bE : Bk w7 (w6.heap.size) 74 #[.int .i64 t, .int .i64 m, .int .i64 q, .slice A ys.length c, .slice none 0 0] := by rw [hw7]; exact Bk.new _ _ _
  replace hF := hF.then_below b7 hF.size
  replace bZ := bZ.st b7
  replace hc := hc.st b7
  replace ry := ry.st b7
  replace e7 := Lib.hid e7
  clear b7 hw7
  (with_reducible refine (one_any g (N + 60) 24 _ hc (by omega) (by omega)).mono ?_)
  rintro e w8 ⟨v, rfl, hcn, f8, z8⟩
  clear hc
  have hc := hcn
  clear hcn
  have s8 : w7.heap.size ≤ w8.heap.size := f8.size
  replace hF := hF.trans f8
  replace bZ := bZ.fr f8 (by omega)
  replace ry := ry.fr f8 (by omega)
  replace bE := bE.fr f8 (by omega)
  clear f8 z8
  go_upto_if 19 with fail
  go_cut [] (fun wq => ∃ (ys : List Int) (A : Option Addr) (c l h : Nat), Bk wq w6.heap.size 74 #[.int .i64 t, .int .i64 m, .int .i64 q, .slice A ys.length c, .slice none 0 0] ∧ Bk wq w.heap.size 74 #[.int .i64 0, .int .i64 0, .int .i64 0, .slice none 0 0, .slice none 0 0] ∧ Own wq l h (.slice A ys.length c) ys ∧ (w.heap.size + 1 ≤ l ∧ h ≤ wq.heap.size ∧ (h ≤ w6.heap.size ∨ w6.heap.size < l)) ∧ (0 < ys.length ∧ ys.length ≤ 9) ∧ Cur wq g (N + 120) ∧ Fr g (g + 1) w wq)
  case first =>
    cases v with
    | false =>
      have bEH := Lib.hid bE
      have bZH := Lib.hid bZ
      have ryH := Lib.hid ry
      have hcH := Lib.hid hc
      have hFH := Lib.hid hF
      clear bE bZ ry hc hF
      go_wp2_with fail
      go_meet
      case rel => exact ⟨ys, A, c, w.heap.size + 1, w6.heap.size, bEH.out, bZH.out, ryH.out, ⟨by omega, by omega, by omega⟩, ⟨hy1, hy2⟩, hcH.out.le (by omega), hFH.out⟩
    | true =>
      clear ry
      go_wp2_with fail
      (with_reducible refine (pick_any g (N + 62) 2 _ hc (by omega) (by omega)).mono ?_)
      rintro e w9 ⟨x, rfl, hx, hcn, f9, z9⟩
      clear hc
      have hc := hcn
      clear hcn
      have s9 : w8.heap.size ≤ w9.heap.size := f9.size
      replace hF := hF.trans f9
      replace bZ := bZ.fr f9 (by omega)
      replace bE := bE.fr f9 (by omega)
      clear f9 z9
      obtain ⟨n2, rfl⟩ : ∃ n2 : Nat, x = (n2 : Int) := ⟨x.toNat, by omega⟩
      have hn3 : n2 ≤ 1 := by omega
      clear hx
      have v1 : IntKind.i64.wrap (8 + (n2 : Int)) = 8 + (n2 : Int) := IntWalk.i64_in _ (by omega)
      go_wp2_with fail
      (with_reducible refine (contents_any g (N + 64) (n2 + 8) (8 + (n2 : Int)) _ hc (by omega) (by omega) (by omega)).mono ?_)
      rintro e w10 ⟨xs, A2, c2, rfl, hxs, oy, hcn, f10⟩
      clear hc
      have hc := hcn
      clear hcn
      have s10 : w9.heap.size ≤ w10.heap.size := f10.size
      replace hF := hF.trans f10
      replace bZ := bZ.fr f10 (by omega)
      replace bE := bE.fr f10 (by omega)
      clear f10
      have hx1 : 0 < xs.length := by omega
      have hx2 : xs.length ≤ 9 := by omega
      have ry := oy
      clear hxs oy v1 hn3 hy1 hy2
      have y3 := bE.cell 3
      have f3 := bE.frozen 3
      have xl := bE.lt
      simp at y3
      obtain ⟨wz, hwz⟩ : ∃ u, u = w10.setCell ⟨w6.heap.size, 3, none⟩ (.slice A2 xs.length c2) := ⟨_, rfl⟩
      have bE2 : Bk wz w6.heap.size 74 #[.int .i64 t, .int .i64 m, .int .i64 q, .slice A2 xs.length c2, .slice none 0 0] := by rw [hwz]; simpa using bE.set_ 3 (.slice A2 xs.length c2)
      have bZ2 : Bk wz w.heap.size 74 #[.int .i64 0, .int .i64 0, .int .i64 0, .slice none 0 0, .slice none 0 0] := by rw [hwz]; exact bZ.far (by dsimp only; omega) _
      have ry2 : Own wz w9.heap.size w10.heap.size (.slice A2 xs.length c2) xs := by rw [hwz]; exact ry.setCell (by dsimp only; omega) _
      have hc2 : Cur wz g (N + 120) := by rw [hwz]; exact (hc.setCell (by dsimp only; omega) _).le (by omega)
      have hF2 : Fr g (g + 1) w wz := by rw [hwz]; exact hF.setNew (by dsimp only; omega) _
      have hall := Lib.hid (And.intro bE2 (And.intro bZ2 (And.intro ry2 (And.intro hc2 hF2))))
      rw [hwz] at hall
      clear bE bZ ry hc hF bE2 bZ2 ry2 hc2 hF2 hwz
      go_wp2_with fail
      go_meet
      case rel => exact ⟨xs, A2, c2, w9.heap.size, w10.heap.size, hall.out.1, hall.out.2.1, hall.out.2.2.1, ⟨by omega, by simp only [size_setCell]; omega, by omega⟩, ⟨hx1, hx2⟩, hall.out.2.2.2.1, hall.out.2.2.2.2⟩
  case rest =>
    clear bE bZ ry hc hF hy1 hy2
    obtain ⟨ys, A, c, l1, h1, bE, bZ, ry, ⟨hl1, hl2, hl3⟩, ⟨hy1, hy2⟩, hc, hF⟩ := hcut
    obtain ⟨w0, rfl⟩ : ∃ w0, w0 = wc := ⟨_, rfl⟩
    have hEl := bE.lt
    have hs0 := hF.size
    have y3 := bE.cell 3
    simp at y3
    go_wp2_with fail
    (with_reducible refine (l1Own_any ys A c _ ry.rd' (by omega)).mono ?_)
    rintro e w11 ⟨u, rfl, oB, b11⟩
    obtain ⟨B, d, rfl, -, -⟩ := oB.rd
    have s11 : w0.heap.size ≤ w11.heap.size := b11.size
    replace hc := hc.st b11
    replace hF := hF.then_below b11 hF.size
    replace bE := bE.st b11
    replace bZ := bZ.st b11
    replace ry := ry.st b11
    clear b11 y3
    have y4 := bE.cell 4
    have f4 := bE.frozen 4
    have xl2 := bE.lt
    simp at y4
    go_wp2_with fail
    obtain ⟨w12, hw12⟩ : ∃ u, u = w11.setCell ⟨w6.heap.size, 4, none⟩ (.slice B ys.length d) := ⟨_, rfl⟩
    rw [← hw12]
    have e12 : w12.heap.size = w11.heap.size := by rw [hw12, size_setCell]
    replace hc := hc.setCell (p := ⟨w6.heap.size, 4, none⟩) (by dsimp only; omega) (.slice B ys.length d)
    rw [← hw12] at hc
    replace hF := hF.setNew (p := ⟨w6.heap.size, 4, none⟩) (by dsimp only; omega) (.slice B ys.length d)
    rw [← hw12] at hF
    replace bE : Bk w12 (w6.heap.size) 74 #[.int .i64 t, .int .i64 m, .int .i64 q, .slice A ys.length c, .slice B ys.length d] := by rw [hw12]; simpa using bE.set_ 4 (.slice B ys.length d)
    replace bZ := bZ.far (p := ⟨w6.heap.size, 4, none⟩) (by dsimp only; omega) (.slice B ys.length d)
    rw [← hw12] at bZ
    replace ry := ry.setCell (p := ⟨w6.heap.size, 4, none⟩) (by dsimp only; omega) (.slice B ys.length d)
    rw [← hw12] at ry
    replace oB := oB.setCell (p := ⟨w6.heap.size, 4, none⟩) (by dsimp only; omega) (.slice B ys.length d)
    rw [← hw12] at oB
    have s12 : w11.heap.size ≤ w12.heap.size := by omega
    clear hw12
    clear y4 f4 xl2
    (with_reducible refine (one_any g (N + 120) 5 _ hc (by omega) (by omega)).mono ?_)
    rintro e w13 ⟨v, rfl, hcn, f13, z13⟩
    clear hc
    have hc := hcn
    clear hcn
    have s13 : w12.heap.size ≤ w13.heap.size := f13.size
    replace hF := hF.trans f13
    replace bE := bE.fr f13 (by omega)
    replace bZ := bZ.fr f13 (by omega)
    replace ry := ry.fr f13 (by omega)
    replace oB := oB.fr f13 (by omega)
    clear f13 z13
    go_upto_if 31 with fail
    go_cut [] (fun wq => ∃ (zs : List Int), Bk wq w6.heap.size 74 #[.int .i64 t, .int .i64 m, .int .i64 q, .slice A ys.length c, .slice B ys.length d] ∧ Bk wq w.heap.size 74 #[.int .i64 0, .int .i64 0, .int .i64 0, .slice none 0 0, .slice none 0 0] ∧ Own wq l1 h1 (.slice A ys.length c) ys ∧ Own wq w0.heap.size wq.heap.size (.slice B ys.length d) zs ∧ (zs.length = ys.length ∧ w0.heap.size ≤ wq.heap.size) ∧ Cur wq g (N + 126) ∧ Fr g (g + 1) w wq)
    case first =>
      cases v with
      | false =>
        have hall := Lib.hid (And.intro bE (And.intro bZ (And.intro ry (And.intro (oB.mono (Nat.le_refl _) (show _ ≤ w13.heap.size by omega)) (And.intro hc hF)))))
        clear bE bZ ry oB hc hF
        go_wp2_with fail
        go_meet
        case rel => exact ⟨ys, hall.out.1, hall.out.2.1, hall.out.2.2.1, hall.out.2.2.2.1, ⟨rfl, by omega⟩, hall.out.2.2.2.2.1.le (by omega), hall.out.2.2.2.2.2⟩
      | true =>
        obtain ⟨gg, cc, he, hg1, hg3, hg2, -, -⟩ := oB.at_ hy1
        have he2 : B = some ⟨gg, 0, none⟩ := by injection he with e1 e2 e3
        subst he2
        clear he
        have y4 := bE.cell 4
        simp at y4
        have xl := bE.lt
        have hcx := hc.drew
        have bEx := bE.drew
        have oBx := oB.drew
        have hsx : w13.drew.heap.size = w13.heap.size := rfl
        have hsxH := Lib.hid hsx
        clear hsx
        go_wp2_with fail
        go_region_held3 (fun w' => w'.cell? ⟨w6.heap.size, 4, none⟩ = some (.slice (some ⟨gg, 0, none⟩) ys.length d)) (((try go_split_ands); (try dsimp only); (repeat' apply And.intro) <;> (first | assumption | (simp only [*]; done) | ((refine (World.cell?_setCell_other _ _ _ _ (fun e => by injection e with e; omega)).trans ?_); assumption) | ((refine (World.cell?_alloc_lt _ _ _ (by first | assumption | (simp <;> omega))).trans ?_); assumption))))
          (first
            | (go_at_call 115; ((with_reducible refine (pick_any g (N + 122) (ys.length : Int) _ hcx (by omega) (by omega)).mono ?_); rintro e wa ⟨x, rfl, hx, hca, fa, za⟩); (obtain ⟨i, rfl⟩ : ∃ i : Nat, x = (i : Int) := ⟨x.toNat, by omega⟩); (have hi : i < ys.length := by omega); (have bEa := bEx.fr fa (by omega)); (have ya4 := bEa.cell 4); (simp at ya4))
            | (go_at_call 115; ((with_reducible refine (pick_any g (N + 122) 64 _ hcx (by omega) (by omega)).mono ?_); rintro e wa ⟨jv, rfl, hj, hca, fa, za⟩); (have bEa := bEx.fr fa (by omega)); (have ya4 := bEa.cell 4); (simp at ya4))
            | (go_at_call 115; ((with_reducible refine (pick_any g (N + 124) 64 _ hca (by omega) (by omega)).mono ?_); rintro e wb ⟨jv, rfl, hj, hcb, fb, zb⟩); (have bEb := bEa.fr fb (by omega)); (have yb4 := bEb.cell 4); (simp at yb4); (have x0 := ((oBx.fr fa (.inr (by omega))).fr fb (.inr (by omega))).at2 hi); (obtain ⟨x0, x1, -⟩ := x0); (have hi0 : (0 : Int) ≤ (i : Int) := by omega); (have hi1 : (i : Int) < (ys.length : Int) := by omega))
            | (go_at_call 115; ((with_reducible refine (pick_any g (N + 124) (ys.length : Int) _ hca (by omega) (by omega)).mono ?_); rintro e wb ⟨x, rfl, hx, hcb, fb, zb⟩); (obtain ⟨i, rfl⟩ : ∃ i : Nat, x = (i : Int) := ⟨x.toNat, by omega⟩); (have hi : i < ys.length := by omega); (have bEb := bEa.fr fb (by omega)); (have yb4 := bEb.cell 4); (simp at yb4); (have x0 := ((oBx.fr fa (.inr (by omega))).fr fb (.inr (by omega))).at2 hi); (obtain ⟨x0, x1, -⟩ := x0); (have hi0 : (0 : Int) ≤ (i : Int) := by omega); (have hi1 : (i : Int) < (ys.length : Int) := by omega)))
        all_goals
          have hall := Lib.hid (And.intro (bEb.far (p := ⟨gg, i, none⟩) (by dsimp only; omega) (.int .i64 jv)) (And.intro (((bZ.drew.fr fa (by omega)).fr fb (by omega)).far (p := ⟨gg, i, none⟩) (by dsimp only; omega) (.int .i64 jv)) (And.intro (((ry.drew.fr fa (by omega)).fr fb (by omega)).setCell (p := ⟨gg, i, none⟩) (by dsimp only; omega) (.int .i64 jv)) (And.intro ((((oBx.fr fa (by omega)).fr fb (by omega)).stored (j := i) jv).mono (Nat.le_refl _) (show _ ≤ wb.heap.size by have := fa.size; have := fb.size; have := hsxH.out; omega)) (And.intro (hcb.setCell (p := ⟨gg, i, none⟩) (by dsimp only; omega) (.int .i64 jv)) (((hF.drew.trans fa).trans fb).setNew (p := ⟨gg, i, none⟩) (by dsimp only; omega) (.int .i64 jv)))))))
          have hszH := Lib.hid (show w0.heap.size ≤ wb.heap.size by have := fa.size; have := fb.size; have := hsxH.out; omega)
          clear bE bZ ry oB hc hF bEx oBx hcx bEa bEb hca hcb fa fb za zb
          go_wp2_with fail
          go_meet
          case rel => exact ⟨ys.set i jv, hall.out.1, hall.out.2.1, hall.out.2.2.1, hall.out.2.2.2.1.mono (Nat.le_refl _) (by rw [size_setCell]; exact Nat.le_refl _), ⟨List.length_set .., by rw [size_setCell]; have := hszH.out; omega⟩, hall.out.2.2.2.2.1.le (by omega), hall.out.2.2.2.2.2⟩
    case rest =>
      clear bE bZ ry oB hc hF
      obtain ⟨zs, bE, bZ, ry, oB, ⟨hzl, hsw⟩, hc, hF⟩ := hcut
      have hzlH := Lib.hid hzl
      have hz0 : 0 < zs.length := by omega
      clear hzl
      obtain ⟨wd, rfl⟩ : ∃ wd, wd = wc := ⟨_, rfl⟩
      have hs1 := hF.size
      have hEd := bE.lt
      go_wp2_with fail
      (with_reducible refine (pick_any g (N + 126) 40 _ hc (by omega) (by omega)).mono ?_)
      rintro e w14 ⟨x, rfl, hx, hcn, f14, z14⟩
      clear hc
      have hc := hcn
      clear hcn
      have s14 : wd.heap.size ≤ w14.heap.size := f14.size
      replace hF := hF.trans f14
      replace bE := bE.fr f14 (by omega)
      replace bZ := bZ.fr f14 (by omega)
      replace ry := ry.fr f14 (by omega)
      replace oB := oB.fr f14 (by omega)
      clear f14 z14
      have hx0 : 0 ≤ x := hx.1
      clear hx
      go_upto_block 0 with fail
      go_cut [] (fun wq => ∃ (t' m' q' : Int) (ys' zs' : List Int) (A' : Option Addr) (c' : Nat), Bk wq w6.heap.size 74 #[.int .i64 t', .int .i64 m', .int .i64 q', .slice A' ys'.length c', .slice B ys.length d] ∧ Bk wq w.heap.size 74 #[.int .i64 0, .int .i64 0, .int .i64 0, .slice none 0 0, .slice none 0 0] ∧ Own wq (w.heap.size + 1) wq.heap.size (.slice A' ys'.length c') ys' ∧ Own wq (w.heap.size + 1) wq.heap.size (.slice B ys.length d) zs' ∧ zs'.length = ys.length ∧ ys'.length ≤ 9 ∧ Cur wq g (N + 132) ∧ Fr g (g + 1) w wq)
      case first =>
        rcases (show x = 0 ∨ x = 1 ∨ x = 2 ∨ x = 3 ∨ x = 4 ∨ 5 ≤ x by omega) with rfl | rfl | rfl | rfl | rfl | hx5
        · go_wp2_with fail
          obtain ⟨w15, hw15⟩ : ∃ u, u = w14.alloc (.cells #[.int .i64 (-1), .int .i64 10000, .int .i64 10001] 3) := ⟨_, rfl⟩
          rw [← hw15]
          have e15 : w15.heap.size = w14.heap.size + 1 := by rw [hw15]; simp
          have s15 : w14.heap.size + 1 ≤ w15.heap.size := by omega
          have b15 : Below w14.heap.size w14 w15 := by rw [hw15]; exact (Below.refl _ _).alloc (Nat.le_refl _) _
          have r15 : Rd w15 (w14.heap.size) (w14.heap.size + 1) (some ⟨w14.heap.size, 0, none⟩) [-1, 10000, 10001] := by rw [hw15]; exact Rd.one _ _ _ _ rfl
          replace hF := hF.then_below b15 hF.size
          replace bE := bE.st b15
          replace bZ := bZ.st b15
          replace ry := ry.st b15
          replace oB := oB.st b15
          replace hc := hc.st b15
          replace e15 := Lib.hid e15
          clear b15 hw15
          (with_reducible refine (among_any g (N + 128) [-1, 10000, 10001] _ 3 _ _ hc (by omega) r15 rfl (by simp) (by simp) (by omega)).mono ?_)
          rintro e w16 ⟨kk, rfl, hkk, hcn, f16, z16⟩
          clear hc
          have hc := hcn
          clear hcn
          have s16 : w15.heap.size ≤ w16.heap.size := f16.size
          replace hF := hF.trans f16
          replace bE := bE.fr f16 (by omega)
          replace bZ := bZ.fr f16 (by omega)
          replace ry := ry.fr f16 (by omega)
          replace oB := oB.fr f16 (by omega)
          replace r15 := r15.fr f16 (by omega)
          clear f16 z16
          clear hkk
          clear r15
          have y0 := bE.cell 0
          have f0 := bE.frozen 0
          have xl := bE.lt
          simp at y0
          have bE2 : Bk (w16.setCell ⟨w6.heap.size, 0, none⟩ (.int .i64 kk)) (w6.heap.size) 74 #[.int .i64 kk, .int .i64 m, .int .i64 q, .slice A ys.length c, .slice B ys.length d] := by simpa using bE.set_ 0 (.int .i64 kk)
          have hall := Lib.hid (And.intro bE2 (And.intro (bZ.far (p := ⟨w6.heap.size, 0, none⟩) (by dsimp only; omega) (.int .i64 kk)) (And.intro ((ry.setCell (p := ⟨w6.heap.size, 0, none⟩) (by dsimp only; omega) (.int .i64 kk)).mono (show w.heap.size + 1 ≤ _ by omega) (show _ ≤ w16.heap.size by omega)) (And.intro ((oB.setCell (p := ⟨w6.heap.size, 0, none⟩) (by dsimp only; omega) (.int .i64 kk)).mono (show w.heap.size + 1 ≤ _ by omega) (show _ ≤ w16.heap.size by omega)) (And.intro (hc.setCell (p := ⟨w6.heap.size, 0, none⟩) (by dsimp only; omega) (.int .i64 kk)) (hF.setNew (p := ⟨w6.heap.size, 0, none⟩) (by dsimp only; omega) (.int .i64 kk)))))))
          clear bE bE2 bZ ry oB hc hF
          go_wp2_with fail
          go_meet
          case rel => exact ⟨kk, m, q, ys, zs, A, c, hall.out.1, hall.out.2.1, hall.out.2.2.1.mono (Nat.le_refl _) (by rw [size_setCell]; exact Nat.le_refl _), hall.out.2.2.2.1.mono (Nat.le_refl _) (by rw [size_setCell]; exact Nat.le_refl _), hzlH.out, hy2, hall.out.2.2.2.2.1.le (by omega), hall.out.2.2.2.2.2⟩
        · go_wp2_with fail
          obtain ⟨w17, hw17⟩ : ∃ u, u = w14.alloc (.cells #[.int .i64 0, .int .i64 1000] 3) := ⟨_, rfl⟩
          rw [← hw17]
          have e17 : w17.heap.size = w14.heap.size + 1 := by rw [hw17]; simp
          have s17 : w14.heap.size + 1 ≤ w17.heap.size := by omega
          have b17 : Below w14.heap.size w14 w17 := by rw [hw17]; exact (Below.refl _ _).alloc (Nat.le_refl _) _
          have r17 : Rd w17 (w14.heap.size) (w14.heap.size + 1) (some ⟨w14.heap.size, 0, none⟩) [0, 1000] := by rw [hw17]; exact Rd.one _ _ _ _ rfl
          replace hF := hF.then_below b17 hF.size
          replace bE := bE.st b17
          replace bZ := bZ.st b17
          replace ry := ry.st b17
          replace oB := oB.st b17
          replace hc := hc.st b17
          replace e17 := Lib.hid e17
          clear b17 hw17
          (with_reducible refine (among_any g (N + 128) [0, 1000] _ 2 _ _ hc (by omega) r17 rfl (by simp) (by simp) (by omega)).mono ?_)
          rintro e w18 ⟨kk, rfl, hkk, hcn, f18, z18⟩
          clear hc
          have hc := hcn
          clear hcn
          have s18 : w17.heap.size ≤ w18.heap.size := f18.size
          replace hF := hF.trans f18
          replace bE := bE.fr f18 (by omega)
          replace bZ := bZ.fr f18 (by omega)
          replace ry := ry.fr f18 (by omega)
          replace oB := oB.fr f18 (by omega)
          replace r17 := r17.fr f18 (by omega)
          clear f18 z18
          clear hkk
          clear r17
          have y1 := bE.cell 1
          have f1 := bE.frozen 1
          have xl := bE.lt
          simp at y1
          have bE2 : Bk (w18.setCell ⟨w6.heap.size, 1, none⟩ (.int .i64 kk)) (w6.heap.size) 74 #[.int .i64 t, .int .i64 kk, .int .i64 q, .slice A ys.length c, .slice B ys.length d] := by simpa using bE.set_ 1 (.int .i64 kk)
          have hall := Lib.hid (And.intro bE2 (And.intro (bZ.far (p := ⟨w6.heap.size, 1, none⟩) (by dsimp only; omega) (.int .i64 kk)) (And.intro ((ry.setCell (p := ⟨w6.heap.size, 1, none⟩) (by dsimp only; omega) (.int .i64 kk)).mono (show w.heap.size + 1 ≤ _ by omega) (show _ ≤ w18.heap.size by omega)) (And.intro ((oB.setCell (p := ⟨w6.heap.size, 1, none⟩) (by dsimp only; omega) (.int .i64 kk)).mono (show w.heap.size + 1 ≤ _ by omega) (show _ ≤ w18.heap.size by omega)) (And.intro (hc.setCell (p := ⟨w6.heap.size, 1, none⟩) (by dsimp only; omega) (.int .i64 kk)) (hF.setNew (p := ⟨w6.heap.size, 1, none⟩) (by dsimp only; omega) (.int .i64 kk)))))))
          clear bE bE2 bZ ry oB hc hF
          go_wp2_with fail
          go_meet
          case rel => exact ⟨t, kk, q, ys, zs, A, c, hall.out.1, hall.out.2.1, hall.out.2.2.1.mono (Nat.le_refl _) (by rw [size_setCell]; exact Nat.le_refl _), hall.out.2.2.2.1.mono (Nat.le_refl _) (by rw [size_setCell]; exact Nat.le_refl _), hzlH.out, hy2, hall.out.2.2.2.2.1.le (by omega), hall.out.2.2.2.2.2⟩
        · go_wp2_with fail
          obtain ⟨w19, hw19⟩ : ∃ u, u = w14.alloc (.cells #[.int .i64 (-1), .int .i64 8, .int .i64 9] 3) := ⟨_, rfl⟩
          rw [← hw19]
          have e19 : w19.heap.size = w14.heap.size + 1 := by rw [hw19]; simp
          have s19 : w14.heap.size + 1 ≤ w19.heap.size := by omega
          have b19 : Below w14.heap.size w14 w19 := by rw [hw19]; exact (Below.refl _ _).alloc (Nat.le_refl _) _
          have r19 : Rd w19 (w14.heap.size) (w14.heap.size + 1) (some ⟨w14.heap.size, 0, none⟩) [-1, 8, 9] := by rw [hw19]; exact Rd.one _ _ _ _ rfl
          replace hF := hF.then_below b19 hF.size
          replace bE := bE.st b19
          replace bZ := bZ.st b19
          replace ry := ry.st b19
          replace oB := oB.st b19
          replace hc := hc.st b19
          replace e19 := Lib.hid e19
          clear b19 hw19
          (with_reducible refine (among_any g (N + 128) [-1, 8, 9] _ 3 _ _ hc (by omega) r19 rfl (by simp) (by simp) (by omega)).mono ?_)
          rintro e w20 ⟨kk, rfl, hkk, hcn, f20, z20⟩
          clear hc
          have hc := hcn
          clear hcn
          have s20 : w19.heap.size ≤ w20.heap.size := f20.size
          replace hF := hF.trans f20
          replace bE := bE.fr f20 (by omega)
          replace bZ := bZ.fr f20 (by omega)
          replace ry := ry.fr f20 (by omega)
          replace oB := oB.fr f20 (by omega)
          replace r19 := r19.fr f20 (by omega)
          clear f20 z20
          clear hkk
          clear r19
          have y2 := bE.cell 2
          have f2 := bE.frozen 2
          have xl := bE.lt
          simp at y2
          have bE2 : Bk (w20.setCell ⟨w6.heap.size, 2, none⟩ (.int .i64 kk)) (w6.heap.size) 74 #[.int .i64 t, .int .i64 m, .int .i64 kk, .slice A ys.length c, .slice B ys.length d] := by simpa using bE.set_ 2 (.int .i64 kk)
          have hall := Lib.hid (And.intro bE2 (And.intro (bZ.far (p := ⟨w6.heap.size, 2, none⟩) (by dsimp only; omega) (.int .i64 kk)) (And.intro ((ry.setCell (p := ⟨w6.heap.size, 2, none⟩) (by dsimp only; omega) (.int .i64 kk)).mono (show w.heap.size + 1 ≤ _ by omega) (show _ ≤ w20.heap.size by omega)) (And.intro ((oB.setCell (p := ⟨w6.heap.size, 2, none⟩) (by dsimp only; omega) (.int .i64 kk)).mono (show w.heap.size + 1 ≤ _ by omega) (show _ ≤ w20.heap.size by omega)) (And.intro (hc.setCell (p := ⟨w6.heap.size, 2, none⟩) (by dsimp only; omega) (.int .i64 kk)) (hF.setNew (p := ⟨w6.heap.size, 2, none⟩) (by dsimp only; omega) (.int .i64 kk)))))))
          clear bE bE2 bZ ry oB hc hF
          go_wp2_with fail
          go_meet
          case rel => exact ⟨t, m, kk, ys, zs, A, c, hall.out.1, hall.out.2.1, hall.out.2.2.1.mono (Nat.le_refl _) (by rw [size_setCell]; exact Nat.le_refl _), hall.out.2.2.2.1.mono (Nat.le_refl _) (by rw [size_setCell]; exact Nat.le_refl _), hzlH.out, hy2, hall.out.2.2.2.2.1.le (by omega), hall.out.2.2.2.2.2⟩
        · have y3 := bE.cell 3
          have f3 := bE.frozen 3
          have xl := bE.lt
          simp at y3
          have bE2 : Bk (w14.setCell ⟨w6.heap.size, 3, none⟩ (.slice none 0 0)) (w6.heap.size) 74 #[.int .i64 t, .int .i64 m, .int .i64 q, .slice none 0 0, .slice B ys.length d] := by simpa using bE.set_ 3 (.slice none 0 0)
          have hall := Lib.hid (And.intro bE2 (And.intro (bZ.far (p := ⟨w6.heap.size, 3, none⟩) (by dsimp only; omega) (.slice none 0 0)) (And.intro ((oB.setCell (p := ⟨w6.heap.size, 3, none⟩) (by dsimp only; omega) (.slice none 0 0)).mono (show w.heap.size + 1 ≤ _ by omega) (show _ ≤ w14.heap.size by omega)) (And.intro (hc.setCell (p := ⟨w6.heap.size, 3, none⟩) (by dsimp only; omega) (.slice none 0 0)) (hF.setNew (p := ⟨w6.heap.size, 3, none⟩) (by dsimp only; omega) (.slice none 0 0))))))
          clear bE bE2 bZ ry oB hc hF
          go_wp2_with fail
          go_meet
          case rel => exact ⟨t, m, q, [], zs, none, 0, hall.out.1, hall.out.2.1, Own.nil, hall.out.2.2.1.mono (Nat.le_refl _) (by rw [size_setCell]; exact Nat.le_refl _), hzlH.out, by simp, hall.out.2.2.2.1.le (by omega), hall.out.2.2.2.2⟩
        · obtain ⟨gg, cc, he, hg1, hg3, hg2, -, -⟩ := oB.at_ hz0
          have he2 : B = some ⟨gg, 0, none⟩ := by injection he with e1 e2 e3
          subst he2
          clear he
          have y4 := bE.cell 4
          simp at y4
          have xl := bE.lt
          have hcx := (hc.alloc (.cells #[.int .i64 (-1), .int .i64 0, .int .i64 63, .int .i64 64] 3)).drew
          have bEx := (bE.alloc (.cells #[.int .i64 (-1), .int .i64 0, .int .i64 63, .int .i64 64] 3)).drew
          have bZx := (bZ.alloc (.cells #[.int .i64 (-1), .int .i64 0, .int .i64 63, .int .i64 64] 3)).drew
          have ryx := (ry.alloc (.cells #[.int .i64 (-1), .int .i64 0, .int .i64 63, .int .i64 64] 3)).drew
          have oBx := (oB.alloc (.cells #[.int .i64 (-1), .int .i64 0, .int .i64 63, .int .i64 64] 3)).drew
          have hFx := (hF.alloc (.cells #[.int .i64 (-1), .int .i64 0, .int .i64 63, .int .i64 64] 3)).drew
          have rx : Rd (w14.alloc (.cells #[.int .i64 (-1), .int .i64 0, .int .i64 63, .int .i64 64] 3)).drew w14.heap.size (w14.heap.size + 1) (some ⟨w14.heap.size, 0, none⟩) [-1, 0, 63, 64] := (Rd.one w14 _ _ _ rfl).drew
          have hsxH := Lib.hid (show (w14.alloc (.cells #[.int .i64 (-1), .int .i64 0, .int .i64 63, .int .i64 64] 3)).drew.heap.size = w14.heap.size + 1 by simp)
          go_wp2_with fail
          go_region_held3 (fun w' => w'.cell? ⟨w6.heap.size, 4, none⟩ = some (.slice (some ⟨gg, 0, none⟩) ys.length d)) (((try go_split_ands); (try dsimp only); (repeat' apply And.intro) <;> (first | assumption | (simp only [*]; done) | ((refine (World.cell?_setCell_other _ _ _ _ (fun e => by injection e with e; omega)).trans ?_); assumption) | ((refine (World.cell?_alloc_lt _ _ _ (by first | assumption | (simp <;> omega))).trans ?_); assumption))))
            (first
              | (go_at_call 122; ((with_reducible refine (among_any g (N + 128) [-1, 0, 63, 64] _ 4 _ _ hcx (by omega) rx rfl (by simp) (by simp) (by omega)).mono ?_); rintro e wa ⟨kk, rfl, hkk, hca, fa, za⟩); (have bEa := bEx.fr fa (by omega)); (have ya4 := bEa.cell 4); (simp at ya4); (have x0 := (oBx.fr fa (.inr (by omega))).at2 hz0); (obtain ⟨x0, x1, -⟩ := x0)))
          all_goals
            have hszH := Lib.hid (show w14.heap.size + 1 ≤ wa.heap.size by have := fa.size; have := hsxH.out; omega)
            have hall := Lib.hid (And.intro (bEa.far (p := ⟨gg, 0, none⟩) (by dsimp only; omega) (.int .i64 kk)) (And.intro ((bZx.fr fa (by omega)).far (p := ⟨gg, 0, none⟩) (by dsimp only; omega) (.int .i64 kk)) (And.intro (((ryx.fr fa (by omega)).setCell (p := ⟨gg, 0, none⟩) (by dsimp only; omega) (.int .i64 kk)).mono (show w.heap.size + 1 ≤ _ by omega) (show _ ≤ wa.heap.size by have := hszH.out; omega)) (And.intro (((oBx.fr fa (by omega)).stored (j := 0) kk).mono (show w.heap.size + 1 ≤ _ by omega) (show _ ≤ wa.heap.size by have := hszH.out; omega)) (And.intro (hca.setCell (p := ⟨gg, 0, none⟩) (by dsimp only; omega) (.int .i64 kk)) ((hFx.trans fa).setNew (p := ⟨gg, 0, none⟩) (by dsimp only; omega) (.int .i64 kk)))))))
            clear bE bZ ry oB hc hF bEx oBx hcx bEa hca fa za bZx ryx hFx rx hkk
            go_wp2_with fail
            go_meet
            case rel => exact ⟨t, m, q, ys, zs.set 0 kk, A, c, hall.out.1, hall.out.2.1, hall.out.2.2.1.mono (Nat.le_refl _) (by rw [size_setCell]; exact Nat.le_refl _), hall.out.2.2.2.1.mono (Nat.le_refl _) (by rw [size_setCell]; exact Nat.le_refl _), by rw [List.length_set]; exact hzlH.out, hy2, hall.out.2.2.2.2.1.le (by omega), hall.out.2.2.2.2.2⟩
        · have e00 : (x == 0) = false := by simp; omega
          have e10 : (x == 1) = false := by simp; omega
          have e20 : (x == 2) = false := by simp; omega
          have e30 : (x == 3) = false := by simp; omega
          have e40 : (x == 4) = false := by simp; omega
          have hall := Lib.hid (And.intro bE (And.intro bZ (And.intro (ry.mono (show w.heap.size + 1 ≤ _ by omega) (show _ ≤ w14.heap.size by omega)) (And.intro (oB.mono (show w.heap.size + 1 ≤ _ by omega) (show _ ≤ w14.heap.size by omega)) (And.intro hc hF)))))
          clear bE bZ ry oB hc hF
          go_wp2_with fail
          go_meet
          case rel => exact ⟨t, m, q, ys, zs, A, c, hall.out.1, hall.out.2.1, hall.out.2.2.1, hall.out.2.2.2.1, hzlH.out, hy2, hall.out.2.2.2.2.1.le (by omega), hall.out.2.2.2.2.2⟩
      case rest =>
        clear bE bZ ry oB hc hF
        obtain ⟨t', m', q', ys', zs', A', c', bE, bZ, ry, rz, hzl', hy', hc, hF⟩ := hcut
        have hzlH2 := Lib.hid hzl'
        clear hzl'
        have hEl2 := bE.lt
        have x0 := bE.cell 0
        have z0 := bZ.cell 0
        have g0 := bZ.frozen 0
        have x1 := bE.cell 1
        have z1 := bZ.cell 1
        have g1 := bZ.frozen 1
        have x2 := bE.cell 2
        have z2 := bZ.cell 2
        have g2 := bZ.frozen 2
        have x3 := bE.cell 3
        have z3 := bZ.cell 3
        have g3 := bZ.frozen 3
        have x4 := bE.cell 4
        have z4 := bZ.cell 4
        have g4 := bZ.frozen 4
        simp at x0 x1 x2 x3 x4 z0 z1 z2 z3 z4
        have hwl : w.heap.size < wc.heap.size := bZ.lt
        have hcH := Lib.hid (((((hc.setCell (p := ⟨w.heap.size, 0, none⟩) (by dsimp only; omega) (.int .i64 t')).setCell (p := ⟨w.heap.size, 1, none⟩) (by dsimp only; omega) (.int .i64 m')).setCell (p := ⟨w.heap.size, 2, none⟩) (by dsimp only; omega) (.int .i64 q')).setCell (p := ⟨w.heap.size, 3, none⟩) (by dsimp only; omega) (.slice A' ys'.length c')).setCell (p := ⟨w.heap.size, 4, none⟩) (by dsimp only; omega) (.slice B ys.length d))
        have hFH := Lib.hid (((((hF.setNew (p := ⟨w.heap.size, 0, none⟩) (Nat.le_refl _) (.int .i64 t')).setNew (p := ⟨w.heap.size, 1, none⟩) (Nat.le_refl _) (.int .i64 m')).setNew (p := ⟨w.heap.size, 2, none⟩) (Nat.le_refl _) (.int .i64 q')).setNew (p := ⟨w.heap.size, 3, none⟩) (Nat.le_refl _) (.slice A' ys'.length c')).setNew (p := ⟨w.heap.size, 4, none⟩) (Nat.le_refl _) (.slice B ys.length d))
        have ryH := Lib.hid ((((((ry.mono (show w.heap.size + 1 ≤ w.heap.size + 1 by omega) (Nat.le_refl _)).setCell (p := ⟨w.heap.size, 0, none⟩) (by dsimp only; omega) (.int .i64 t')).setCell (p := ⟨w.heap.size, 1, none⟩) (by dsimp only; omega) (.int .i64 m')).setCell (p := ⟨w.heap.size, 2, none⟩) (by dsimp only; omega) (.int .i64 q')).setCell (p := ⟨w.heap.size, 3, none⟩) (by dsimp only; omega) (.slice A' ys'.length c')).setCell (p := ⟨w.heap.size, 4, none⟩) (by dsimp only; omega) (.slice B ys.length d))
        have rzH := Lib.hid ((((((rz.mono (show w.heap.size + 1 ≤ w.heap.size + 1 by omega) (Nat.le_refl _)).setCell (p := ⟨w.heap.size, 0, none⟩) (by dsimp only; omega) (.int .i64 t')).setCell (p := ⟨w.heap.size, 1, none⟩) (by dsimp only; omega) (.int .i64 m')).setCell (p := ⟨w.heap.size, 2, none⟩) (by dsimp only; omega) (.int .i64 q')).setCell (p := ⟨w.heap.size, 3, none⟩) (by dsimp only; omega) (.slice A' ys'.length c')).setCell (p := ⟨w.heap.size, 4, none⟩) (by dsimp only; omega) (.slice B ys.length d))
        clear bE bZ ry rz hc hF
        go_wp2_with fail
        refine bodyPost_ret (v := .agg #[.int .i64 t', .int .i64 m', .int .i64 q', .slice A' ys'.length c', .slice B ys.length d]) (by simp [results, Tryz.results135, go_sem, z0, z1, z2, z3, z4]) rfl ?_
        have hzl := hzlH2.out
        exact ⟨t', m', q', ys', zs', A', c', B, d, by rw [hzl], ⟨by omega, by omega, by omega⟩, ryH.out.mono (by omega) (by simp only [size_setCell]; exact Nat.le_refl _), by rw [hzl]; exact rzH.out.mono (by omega) (by simp only [size_setCell]; exact Nat.le_refl _), hcH.out.le (by omega), hFH.out⟩
end Go.Proofs.YtjhbffndiaggmaaGreatDoor
