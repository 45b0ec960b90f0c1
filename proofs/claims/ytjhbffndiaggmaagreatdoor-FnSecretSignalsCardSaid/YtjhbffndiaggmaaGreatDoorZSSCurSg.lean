/-
  Contracts of the drawn signals. The conditions are bounds on how often the cursor has been asked.
-/
import Derived.Test.YtjhbffndiaggmaaGreatDoorBSS10
import Derived.Test.YtjhbffndiaggmaaGreatDoorZSSLawKit
import Derived.Deep.DeepCutAuto
import Derived.Deep.CutBlock
namespace Go.Proofs.YtjhbffndiaggmaaGreatDoor
open Go.RowKit Go.ChangeShapes Go.WideShapes
set_option linter.unusedVariables false
set_option linter.unusedSimpArgs false

set_option maxRecDepth 100000 in
set_option maxHeartbeats 4000000 in
theorem clearSignals_any (g N : Nat) (most : Int) (w : World) (hc : Cur w g N) (hN : N ≤ 4611686018427380000) (hm : 0 ≤ most ∧ most ≤ 100) :
    Calls Tryz.prog 108 #[.pointer (some ⟨g, 0, none⟩), .int .i64 most] w fun e w' => ∃ (zs : List Int) (A : Option Addr) (c : Nat), e = .returned (.slice A zs.length c) ∧ zs.length ≤ 101 ∧ Own w' w.heap.size w'.heap.size (.slice A zs.length c) zs ∧ Cur w' g (N + 220) ∧ Fr g (g + 1) w w' := by
  have hgl := hc.lt
  have hF := Fr.refl g (g + 1) w
  have hsw := Nat.le_refl w.heap.size
  have v1 : IntKind.i64.wrap (most + 1) = most + 1 := IntWalk.i64_in _ (by omega)
  go_enter Tryz.func108, Tryz.ntmps108
  go_wp2_with fail
  obtain ⟨w1, hw1⟩ : ∃ u, u = w.alloc (.cells #[.int .i64 (most + 1), .int .i64 2] 3) := ⟨_, rfl⟩
  rw [← hw1]
  have e1 : w1.heap.size = w.heap.size + 1 := by rw [hw1]; simp
  have s1 : w.heap.size + 1 ≤ w1.heap.size := by omega
  have b1 : Below w.heap.size w w1 := by rw [hw1]; exact (Below.refl _ _).alloc (Nat.le_refl _) _
  have r1 : Rd w1 (w.heap.size) (w.heap.size + 1) (some ⟨w.heap.size, 0, none⟩) [most + 1, 2] := by rw [hw1]; exact Rd.one _ _ _ _ rfl
  replace hc := hc.st b1
  replace hF := hF.then_below b1 hF.size
  replace e1 := Lib.hid e1
  clear b1 hw1
  (with_reducible refine (among_any g N [most + 1, 2] _ 2 _ _ hc (by omega) r1 rfl (by simp) (by simp) (by omega)).mono ?_)
  rintro e w2 ⟨x, rfl, hx, hcn, f2, z2⟩
  clear hc
  have hc := hcn
  clear hcn
  have s2 : w1.heap.size ≤ w2.heap.size := f2.size
  replace hF := hF.trans f2
  replace r1 := r1.fr f2 (by omega)
  clear f2 z2
  have hxb : 0 ≤ x ∧ x ≤ 101 := by simp at hx; omega
  clear hx v1
  clear r1
  go_wp2_with fail
  obtain ⟨w3, hw3⟩ : ∃ u, u = w2.alloc (.cells #[.int .i64 0, .int .i64 1, .int .i64 3, .int .i64 7, .int .i64 19, .int .i64 20, .int .i64 most, .int .i64 x] 3) := ⟨_, rfl⟩
  rw [← hw3]
  have e3 : w3.heap.size = w2.heap.size + 1 := by rw [hw3]; simp
  have s3 : w2.heap.size + 1 ≤ w3.heap.size := by omega
  have b3 : Below w2.heap.size w2 w3 := by rw [hw3]; exact (Below.refl _ _).alloc (Nat.le_refl _) _
  have r2 : Rd w3 (w2.heap.size) (w2.heap.size + 1) (some ⟨w2.heap.size, 0, none⟩) [0, 1, 3, 7, 19, 20, most, x] := by rw [hw3]; exact Rd.one _ _ _ _ rfl
  replace hF := hF.then_below b3 hF.size
  replace hc := hc.st b3
  replace e3 := Lib.hid e3
  clear b3 hw3
  (with_reducible refine (among_any g (N + 2) [0, 1, 3, 7, 19, 20, most, x] _ 8 _ _ hc (by omega) r2 rfl (by simp) (by simp) (by omega)).mono ?_)
  rintro e w4 ⟨n, rfl, hn, hcn, f4, z4⟩
  clear hc
  have hc := hcn
  clear hcn
  have s4 : w3.heap.size ≤ w4.heap.size := f4.size
  replace hF := hF.trans f4
  replace r2 := r2.fr f4 (by omega)
  clear f4 z4
  have hnb : 0 ≤ n ∧ n ≤ 101 := by simp at hn; omega
  clear hn hxb
  clear r2
  go_wp2_with fail
  go_loopw [5] (fun v wr => ∃ (zs : List Int) (A : Option Addr) (k c : Nat), v = .slice A k c ∧ zs.length = k ∧ (k : Int) ≤ n ∧ Own wr w4.heap.size wr.heap.size (.slice A k c) zs ∧ Cur wr g (N + 4 + 2 * k) ∧ Fr g (g + 1) w wr ∧ w4.heap.size ≤ wr.heap.size) (fun v _ => match v with | .slice _ k _ => 102 - k | _ => 0)
  case atStart => exact ⟨[], none, 0, 0, rfl, rfl, by omega, Own.nil, hc, hF, Nat.le_refl _⟩
  case round =>
    clear hc hF
    obtain ⟨zs, A, k, c, rfl, hzk, hkx, ho, hc, hF, hsr⟩ := hrel
    have hzkH := Lib.hid hzk
    clear hzk
    by_cases hlt : (k : Int) < n
    · go_wp2_with fail
      (with_reducible refine (pick_any g (N + 4 + 2 * k) 60 _ hc (by omega) (by omega)).mono ?_)
      rintro e w5 ⟨y, rfl, hy, hcn, f5, z5⟩
      clear hc
      have hc := hcn
      clear hcn
      have s5 : wr.heap.size ≤ w5.heap.size := f5.size
      replace hF := hF.trans f5
      replace ho := ho.fr f5 (by omega)
      clear f5 z5
      have hyb : 0 ≤ y ∧ y ≤ 59 := by omega
      clear hy
      have v1 : IntKind.i64.wrap (1 + y) = 1 + y := IntWalk.i64_in _ (by omega)
      have hcH := Lib.hid hc
      have hFH := Lib.hid hF
      have hoH := Lib.hid ho
      clear hc hF ho
      go_wp2_with (at_builtin; refine wp_append_ints rfl (.tmp 20) (.tmp 24) (v := .slice A k c) rfl rfl ((hoH.out.mono (Nat.le_refl _) (show wr.heap.size ≤ w5.heap.size by omega)).alloc _) (ys := [1 + y]) rfl ((Rd.one w5 _ _ _ rfl).mono (Nat.zero_le _) (by simp)) (by have := hzkH.out; simp; omega) (by simp; omega) ?_; intro v8 w8 ho8 hg8 hb8 hat8; (obtain ⟨A8, c8, rfl, -, -⟩ := ho8.rd); (have hl8 : (zs ++ [1 + y]).length = k + 1 := by have h9 := hzkH.out; rw [List.length_append, h9]; rfl); rw [hl8] at ho8 ⊢)
      have hlw8 : w5.heap.size ≤ w8.heap.size := by have := hb8.size; simp at this; omega
      have hF9 := (hFH.out.alloc (.cells #[.int .i64 (1 + y)] 3)).then_below hb8 (by omega)
      have hc9 := (hcH.out.alloc (.cells #[.int .i64 (1 + y)] 3)).below hb8 (by omega)
      refine ⟨⟨zs ++ [1 + y], A8, k + 1, c8, rfl, hl8, by omega, ho8, hc9.le (by omega), hF9, by omega⟩, ?_⟩
      simp
      omega
    · have hkx2 : (k : Int) = n := by omega
      subst hkx2
      obtain ⟨wl, rfl⟩ : ∃ wl, wl = wr := ⟨_, rfl⟩
      have hk6 : k ≤ 101 := by omega
      have hwl : w.heap.size ≤ w4.heap.size := by omega
      by_cases hz : (0 : Int) < (k : Int)
      · go_wp2_with fail
        (with_reducible refine (one_any g (N + 4 + 2 * k) 20 _ hc (by omega) (by omega)).mono ?_)
        rintro e w6 ⟨v, rfl, hcn, f6, z6⟩
        clear hc
        have hc := hcn
        clear hcn
        have s6 : wl.heap.size ≤ w6.heap.size := f6.size
        replace hF := hF.trans f6
        replace ho := ho.fr f6 (by omega)
        clear f6 z6
        cases v with
        | false =>
          have hFH := Lib.hid hF
          have hoH := Lib.hid ho
          have hcH := Lib.hid hc
          clear hF ho hc
          go_wp2_with fail
          go_ret
          have hzl := hzkH.out
          exact ⟨zs, A, c, by rw [hzl]; rfl, by omega, by rw [hzl]; exact hoH.out.mono hwl (by omega), hcH.out.le (by omega), hFH.out⟩
        | true =>
          go_wp2_with fail
          (with_reducible refine (pick_any g (N + 4 + 2 * k + 2) (k : Int) _ hc (by omega) (by omega)).mono ?_)
          rintro e w7 ⟨i, rfl, hi, hcn, f7, z7⟩
          clear hc
          have hc := hcn
          clear hcn
          have s7 : w6.heap.size ≤ w7.heap.size := f7.size
          replace hF := hF.trans f7
          replace ho := ho.fr f7 (by omega)
          clear f7 z7
          obtain ⟨j, rfl⟩ : ∃ j : Nat, i = (j : Int) := ⟨i.toNat, by omega⟩
          have hj : j < k := by omega
          clear hi
          go_wp2_with fail
          obtain ⟨w8, hw8⟩ : ∃ u, u = w7.alloc (.cells #[.int .i64 0, .int .i64 60, .int .i64 61] 3) := ⟨_, rfl⟩
          rw [← hw8]
          have e8 : w8.heap.size = w7.heap.size + 1 := by rw [hw8]; simp
          have s8 : w7.heap.size + 1 ≤ w8.heap.size := by omega
          have b8 : Below w7.heap.size w7 w8 := by rw [hw8]; exact (Below.refl _ _).alloc (Nat.le_refl _) _
          have r3 : Rd w8 (w7.heap.size) (w7.heap.size + 1) (some ⟨w7.heap.size, 0, none⟩) [0, 60, 61] := by rw [hw8]; exact Rd.one _ _ _ _ rfl
          replace hF := hF.then_below b8 hF.size
          replace ho := ho.st b8
          replace hc := hc.st b8
          replace e8 := Lib.hid e8
          clear b8 hw8
          (with_reducible refine (among_any g (N + 4 + 2 * k + 4) [0, 60, 61] _ 3 _ _ hc (by omega) r3 rfl (by simp) (by simp) (by omega)).mono ?_)
          rintro e w9 ⟨kk, rfl, hkk, hcn, f9, z9⟩
          clear hc
          have hc := hcn
          clear hcn
          have s9 : w8.heap.size ≤ w9.heap.size := f9.size
          replace hF := hF.trans f9
          replace ho := ho.fr f9 (by omega)
          replace r3 := r3.fr f9 (by omega)
          clear f9 z9
          clear r3
          clear hkk
          obtain ⟨gg, cc, he, hg1, hg3, hg2, hcell, hfro⟩ := ho.at_ (by have := hzkH.out; omega)
          have he2 : A = some ⟨gg, 0, none⟩ ∧ k = zs.length ∧ c = cc := by injection he with e1 e2 e3; exact ⟨e1, e2, e3⟩
          obtain ⟨rfl, -, rfl⟩ := he2
          clear he
          have x0 := hcell j (by have := hzkH.out; omega)
          have f0 := hfro j
          have hk0 : (j : Int) < (k : Int) := by omega
          have hk1 : (0 : Int) ≤ (j : Int) := by omega
          have hoH := Lib.hid ((ho.mono (Nat.le_refl _) (show _ ≤ w9.heap.size by omega)).stored (j := j) kk)
          have hFH := Lib.hid (hF.then_below (B := w.heap.size) ((Below.refl w.heap.size w9).setCell (p := ⟨gg, j, none⟩) (by dsimp only; omega) (.int .i64 kk)) (Nat.le_refl _))
          have hcH := Lib.hid (hc.setCell (p := ⟨gg, j, none⟩) (by dsimp only; omega) (.int .i64 kk))
          clear ho hF hc hcell hfro
          go_wp2_with fail
          go_ret
          have hzl := hzkH.out
          exact ⟨zs.set j kk, some ⟨gg, 0, none⟩, c, by rw [List.length_set, hzl]; rfl, by rw [List.length_set]; omega, by rw [List.length_set, hzl]; exact hoH.out.mono hwl (by rw [size_setCell]; omega), hcH.out.le (by omega), hFH.out⟩
      · have hFH := Lib.hid hF
        have hoH := Lib.hid ho
        have hcH := Lib.hid hc
        clear hF ho hc
        go_wp2_with fail
        go_ret
        have hzl := hzkH.out
        exact ⟨zs, A, c, by rw [hzl]; rfl, by omega, by rw [hzl]; exact hoH.out.mono hwl (by omega), hcH.out.le (by omega), hFH.out⟩
end Go.Proofs.YtjhbffndiaggmaaGreatDoor
