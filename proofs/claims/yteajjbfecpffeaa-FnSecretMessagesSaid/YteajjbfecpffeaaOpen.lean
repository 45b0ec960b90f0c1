/-
  Contracts of OpenSecret. The conditions are bounds on lengths, and room for what the reference reads.
-/
import Derived.Test.YteajjbfecpffeaaAll
import Derived.Test.YteajjbfecpffeaaSecret
namespace Go.Proofs.Yteajjbfecpffeaa
open Go.RowKit Go.ChangeShapes Go.WideShapes
set_option linter.unusedVariables false
set_option linter.unusedSimpArgs false

theorem sc_facts {y z : List Int} (h : scB y z = true) : z.length ≤ 60 ∧ (∀ k (_ : k < z.length), 1 ≤ z[k] ∧ z[k] ≤ 60) ∧ 20 * y.length < z.length + 20 ∧ z.length ≤ 20 * y.length ∧ (∀ k (_ : k < y.length), 0 ≤ y[k] ∧ y[k] ≤ 59) := by
  simp only [scB, Bool.and_eq_true, decide_eq_true_eq] at h
  obtain ⟨h1, h2, h3, h4, h5⟩ := h
  have h6 : (y.length : Int) = ((z.length : Int) + 20 - 1) / 20 := h3
  exact ⟨h1, allB_iff.1 h2, by omega, by omega, allB_iff.1 h4⟩
def osB (k1 p1 : Int) (us y z : List Int) : Bool := kbB k1 p1 us && (scB y z && allB y 0 (p1 - 1))
def osL (k1 p1 : Int) (us y z : List Int) : List Int := if osB k1 p1 us y z then shL z (numsL k1 y) (-1) else []
theorem osL_no {k1 p1 : Int} {us y z : List Int} (h : osB k1 p1 us y z = false) : osL k1 p1 us y z = [] := by simp [osL, h]
theorem osL_yes {k1 p1 : Int} {us y z : List Int} (h : osB k1 p1 us y z = true) : osL k1 p1 us y z = shL z (numsL k1 y) (-1) := by simp [osL, h]
theorem kb_pages {k1 p1 : Int} {us : List Int} (h : kbB k1 p1 us = true) : (0 ≤ k1 ∧ k1 ≤ 1000000000) ∧ 1 ≤ p1 ∧ p1 ≤ 60 := by
  simp only [kbB, Bool.and_eq_true] at h; exact ⟨inB_iff.1 h.1, inB_iff.1 h.2.1⟩
theorem iIsSecret_w (y1 : List Int) (A1 : Option Addr) (c1 : Nat) (z1 : List Int) (B1 : Option Addr) (d1 : Nat) {l h l' h' : Nat} (w : World) (hr1 : Rd w l h A1 y1) (hr2 : Rd w l' h' B1 z1) (hl1 : y1.length ≤ 1048576) (hl2 : z1.length ≤ 1048576) (hcap : True) (v : Bool) (hv : scB y1 z1 = v) :
    Calls Try.prog 40 #[.agg #[.slice A1 y1.length c1, .slice B1 z1.length d1]] w fun e w' => e = .returned (.bool v) ∧ Below w.heap.size w w' := by
  subst hv; exact iIsSecret_any y1 A1 c1 z1 B1 d1 w hr1 hr2 hl1 hl2
theorem scGood_w (y1 : List Int) (A1 : Option Addr) (c1 : Nat) (z1 : List Int) (B1 : Option Addr) (d1 : Nat) {l h l' h' : Nat} (w : World) (hr1 : Rd w l h A1 y1) (hr2 : Rd w l' h' B1 z1) (hl1 : y1.length ≤ 1048576) (hl2 : z1.length ≤ 1048576) (hcap : y1.length ≤ c1) (v : Bool) (hv : scB y1 z1 = v) :
    Calls Try.prog 122 #[.agg #[.slice A1 y1.length c1, .slice B1 z1.length d1]] w fun e w' => e = .returned (.bool v) ∧ Below w.heap.size w w' := by
  subst hv; exact scGood_any y1 A1 c1 z1 B1 d1 w hr1 hr2 hl1 hl2 hcap
theorem l1All_w (zs : List Int) (A : Option Addr) (c : Nat) {l h : Nat} (lo hi : Int) (w : World) (hr : Rd w l h A zs) (hl : zs.length ≤ 1048576) (v : Bool) (hv : allB zs lo hi = v) :
    Calls Try.prog 111 #[.slice A zs.length c, .int .i64 lo, .int .i64 hi] w fun e w' => e = .returned (.bool v) ∧ w = w' := by
  rw [← hv]; exact l1All_any zs A c lo hi w hr (by omega)
set_option maxHeartbeats 1000000 in
theorem scAsked_v (k1 p1 : Int) (us : List Int) (A1 : Option Addr) (c1 : Nat) (y : List Int) (A2 : Option Addr) (c2 : Nat) (z : List Int) (A3 : Option Addr) (c3 : Nat) {l1 h1 l2 h2 l3 h3 : Nat} (w : World) (r10 : Rd w l1 h1 A1 us) (r20 : Rd w l2 h2 A2 y) (r30 : Rd w l3 h3 A3 z) (hl1 : us.length ≤ 1048576) (hl2 : y.length ≤ 1048576) (hl3 : z.length ≤ 1048576) (hcap : y.length ≤ c2) (v : Bool) (hv0 : osB k1 p1 us y z = v) :
    Calls Try.prog 82 #[.agg #[.int .i64 k1, .int .i64 p1, .slice A1 us.length c1], .agg #[.slice A2 y.length c2, .slice A3 z.length c3]] w fun e w' => e = .returned (.bool v) ∧ Below w.heap.size w w' := by
  subst hv0
  have r1 := r10.std
  have r2 := r20.std
  have r3 := r30.std
  clear r10 r20 r30
  cases q : kbB k1 p1 us with
  | false =>
    have hv := Lib.hid (show osB k1 p1 us y z = false by simp [osB, q])
    go_enter Try.func82, Try.ntmps82
    go_wp2_with fail
    (with_reducible refine (kyGood_any k1 p1 us A1 c1 _ ((r1.alloc _).alloc _) (by omega)).mono ?_)
    rintro e w1 ⟨rfl, hb1⟩
    have s1 : w.heap.size + 2 ≤ w1.heap.size := by have := hb1.size; simpa using this
    have B1w : Below w.heap.size w w1 := (((Below.refl w.heap.size w).alloc (Nat.le_refl _) _).alloc (by simp) _).trans (hb1.mono (by simp; omega))
    have k1_1 := ((Bk.new w _ _).alloc _).st hb1
    have k2_1 := (Bk.new2 w _ _ _).st hb1
    have r1_1 := ((r1.alloc _).alloc _).st hb1
    have r2_1 := ((r2.alloc _).alloc _).st hb1
    have r3_1 := ((r3.alloc _).alloc _).st hb1
    clear hb1
    have x1_1 := k1_1.lt
    have x2_1 := k2_1.lt
    have a0 := k1_1.cell 0
    have a1 := k1_1.cell 1
    have a2 := k1_1.cell 2
    have b0 := k2_1.cell 0
    have b1 := k2_1.cell 1
    simp at a0 a1 a2 b0 b1
    go_wp2
    go_ret
    exact ⟨by rw [hv.out]; rfl, B1w⟩
  | true =>
    have hp := (kb_pages q).2
    cases q2 : scB y z with
    | false =>
      have hv := Lib.hid (show osB k1 p1 us y z = false by simp [osB, q, q2])
      go_enter Try.func82, Try.ntmps82
      go_wp2_with fail
      (with_reducible refine (kyGood_any k1 p1 us A1 c1 _ ((r1.alloc _).alloc _) (by omega)).mono ?_)
      rintro e w1 ⟨rfl, hb1⟩
      have s1 : w.heap.size + 2 ≤ w1.heap.size := by have := hb1.size; simpa using this
      have B1w : Below w.heap.size w w1 := (((Below.refl w.heap.size w).alloc (Nat.le_refl _) _).alloc (by simp) _).trans (hb1.mono (by simp; omega))
      have k1_1 := ((Bk.new w _ _).alloc _).st hb1
      have k2_1 := (Bk.new2 w _ _ _).st hb1
      have r1_1 := ((r1.alloc _).alloc _).st hb1
      have r2_1 := ((r2.alloc _).alloc _).st hb1
      have r3_1 := ((r3.alloc _).alloc _).st hb1
      clear hb1
      have x1_1 := k1_1.lt
      have x2_1 := k2_1.lt
      have a0 := k1_1.cell 0
      have a1 := k1_1.cell 1
      have a2 := k1_1.cell 2
      have b0 := k2_1.cell 0
      have b1 := k2_1.cell 1
      simp at a0 a1 a2 b0 b1
      go_wp2_with fail
      (with_reducible refine (scGood_w y A2 c2 z A3 c3 _ r2_1 r3_1 hl2 hl3 hcap _ q2).mono ?_)
      rintro e w2 ⟨rfl, hb2⟩
      have s2 : w1.heap.size ≤ w2.heap.size := hb2.size
      have B2w : Below w.heap.size w w2 := B1w.trans (hb2.mono (by omega))
      have k1_2 := k1_1.st hb2
      have k2_2 := k2_1.st hb2
      have r1_2 := r1_1.st hb2
      have r2_2 := r2_1.st hb2
      have r3_2 := r3_1.st hb2
      clear hb2 k1_1 k2_1 r1_1 r2_1 r3_1 x1_1 x2_1 a0 a1 a2 b0 b1
      have x1_2 := k1_2.lt
      have x2_2 := k2_2.lt
      have a0 := k1_2.cell 0
      have a1 := k1_2.cell 1
      have a2 := k1_2.cell 2
      have b0 := k2_2.cell 0
      have b1 := k2_2.cell 1
      simp at a0 a1 a2 b0 b1
      go_wp2
      go_ret
      exact ⟨by rw [hv.out]; rfl, B2w⟩
    | true =>
      have hv := Lib.hid (show osB k1 p1 us y z = allB y 0 (p1 - 1) by simp [osB, q, q2])
      go_enter Try.func82, Try.ntmps82
      go_wp2_with fail
      (with_reducible refine (kyGood_any k1 p1 us A1 c1 _ ((r1.alloc _).alloc _) (by omega)).mono ?_)
      rintro e w1 ⟨rfl, hb1⟩
      have s1 : w.heap.size + 2 ≤ w1.heap.size := by have := hb1.size; simpa using this
      have B1w : Below w.heap.size w w1 := (((Below.refl w.heap.size w).alloc (Nat.le_refl _) _).alloc (by simp) _).trans (hb1.mono (by simp; omega))
      have k1_1 := ((Bk.new w _ _).alloc _).st hb1
      have k2_1 := (Bk.new2 w _ _ _).st hb1
      have r1_1 := ((r1.alloc _).alloc _).st hb1
      have r2_1 := ((r2.alloc _).alloc _).st hb1
      have r3_1 := ((r3.alloc _).alloc _).st hb1
      clear hb1
      have x1_1 := k1_1.lt
      have x2_1 := k2_1.lt
      have a0 := k1_1.cell 0
      have a1 := k1_1.cell 1
      have a2 := k1_1.cell 2
      have b0 := k2_1.cell 0
      have b1 := k2_1.cell 1
      simp at a0 a1 a2 b0 b1
      go_wp2_with fail
      (with_reducible refine (scGood_w y A2 c2 z A3 c3 _ r2_1 r3_1 hl2 hl3 hcap _ q2).mono ?_)
      rintro e w2 ⟨rfl, hb2⟩
      have s2 : w1.heap.size ≤ w2.heap.size := hb2.size
      have B2w : Below w.heap.size w w2 := B1w.trans (hb2.mono (by omega))
      have k1_2 := k1_1.st hb2
      have k2_2 := k2_1.st hb2
      have r1_2 := r1_1.st hb2
      have r2_2 := r2_1.st hb2
      have r3_2 := r3_1.st hb2
      clear hb2 k1_1 k2_1 r1_1 r2_1 r3_1 x1_1 x2_1 a0 a1 a2 b0 b1
      have x1_2 := k1_2.lt
      have x2_2 := k2_2.lt
      have a0 := k1_2.cell 0
      have a1 := k1_2.cell 1
      have a2 := k1_2.cell 2
      have b0 := k2_2.cell 0
      have b1 := k2_2.cell 1
      simp at a0 a1 a2 b0 b1
      go_wp2_with (go_at_call 111; (with_reducible refine (l1All_w y A2 c2 0 (p1 - 1) _ r2_2 hl2 _ rfl).mono ?_); rintro e w' ⟨rfl, rfl⟩)
      go_ret
      exact ⟨by rw [hv.out]; rfl, B2w⟩
set_option maxHeartbeats 1000000 in
theorem sOpenSecret_any (k1 p1 : Int) (us : List Int) (A1 : Option Addr) (c1 : Nat) (y : List Int) (A2 : Option Addr) (c2 : Nat) (z : List Int) (A3 : Option Addr) (c3 : Nat) {l1 h1 l2 h2 l3 h3 : Nat} (w : World) (r10 : Rd w l1 h1 A1 us) (r20 : Rd w l2 h2 A2 y) (r30 : Rd w l3 h3 A3 z) (hl1 : us.length ≤ 1048576) (hl2 : y.length ≤ 1048576) (hl3 : z.length ≤ 1048576) (hcap : y.length ≤ c2) (hcap3 : z.length ≤ c3) :
    Calls Try.prog 35 #[.agg #[.int .i64 k1, .int .i64 p1, .slice A1 us.length c1], .agg #[.slice A2 y.length c2, .slice A3 z.length c3]] w (SpecZB (osL k1 p1 us y z) (osB k1 p1 us y z) w) := by
  have r1 := r10.std
  have r2 := r20.std
  have r3 := r30.std
  clear r10 r20 r30
  cases q : osB k1 p1 us y z with
  | false =>
    rw [osL_no q]
    go_enter Try.func35, Try.ntmps35
    go_wp2_with fail
    (with_reducible refine (scAsked_v k1 p1 us A1 c1 y A2 c2 z A3 c3 _ ((r1.alloc _).alloc _) ((r2.alloc _).alloc _) ((r3.alloc _).alloc _) hl1 hl2 hl3 hcap _ q).mono ?_)
    rintro e w1 ⟨rfl, hb1⟩
    have s1 : w.heap.size + 2 ≤ w1.heap.size := by have := hb1.size; simpa using this
    have B1w : Below w.heap.size w w1 := (((Below.refl w.heap.size w).alloc (Nat.le_refl _) _).alloc (by simp) _).trans (hb1.mono (by simp; omega))
    have k1_1 := ((Bk.new w _ _).alloc _).st hb1
    have k2_1 := (Bk.new2 w _ _ _).st hb1
    have r1_1 := ((r1.alloc _).alloc _).st hb1
    have r2_1 := ((r2.alloc _).alloc _).st hb1
    have r3_1 := ((r3.alloc _).alloc _).st hb1
    clear hb1
    have x1_1 := k1_1.lt
    have x2_1 := k2_1.lt
    have a0 := k1_1.cell 0
    have a1 := k1_1.cell 1
    have a2 := k1_1.cell 2
    have b0 := k2_1.cell 0
    have b1 := k2_1.cell 1
    simp at a0 a1 a2 b0 b1
    go_wp2
    go_ret2
    exact SpecZB.nil rfl rfl B1w
  | true =>
    rw [osL_yes q]
    have q' := q
    simp only [osB, Bool.and_eq_true] at q'
    obtain ⟨f1, f2, f3, f4, f5⟩ := sc_facts q'.2.1
    have fk := (kb_pages q'.1).1
    have hlen : (shL z (numsL k1 y) (-1)).length ≤ 1048576 := by rw [shL_len _ _ _ (by rw [numsL_len]; omega)]; omega
    have hlenH := Lib.hid hlen
    clear q' hlen
    go_enter Try.func35, Try.ntmps35
    go_wp2_with fail
    (with_reducible refine (scAsked_v k1 p1 us A1 c1 y A2 c2 z A3 c3 _ ((r1.alloc _).alloc _) ((r2.alloc _).alloc _) ((r3.alloc _).alloc _) hl1 hl2 hl3 hcap _ q).mono ?_)
    rintro e w1 ⟨rfl, hb1⟩
    have s1 : w.heap.size + 2 ≤ w1.heap.size := by have := hb1.size; simpa using this
    have B1w : Below w.heap.size w w1 := (((Below.refl w.heap.size w).alloc (Nat.le_refl _) _).alloc (by simp) _).trans (hb1.mono (by simp; omega))
    have k1_1 := ((Bk.new w _ _).alloc _).st hb1
    have k2_1 := (Bk.new2 w _ _ _).st hb1
    have r1_1 := ((r1.alloc _).alloc _).st hb1
    have r2_1 := ((r2.alloc _).alloc _).st hb1
    have r3_1 := ((r3.alloc _).alloc _).st hb1
    clear hb1
    have x1_1 := k1_1.lt
    have x2_1 := k2_1.lt
    have a0 := k1_1.cell 0
    have a1 := k1_1.cell 1
    have a2 := k1_1.cell 2
    have b0 := k2_1.cell 0
    have b1 := k2_1.cell 1
    simp at a0 a1 a2 b0 b1
    go_wp2_with fail
    (with_reducible refine (scAll_any k1 p1 us A1 c1 y A2 c2 z A3 c3 (-1) _ r2_1 r3_1 fk f5 f2 (by omega) f3 f4 hcap3 (.inr rfl)).mono ?_)
    rintro e w2 ⟨A4, c4, rfl, o2, hb2⟩
    have o2 := Lib.hid o2
    have B2w := Lib.hid (B1w.trans (hb2.mono (by omega)))
    clear hb2
    go_wp2
    go_ret2
    exact SpecZB.mk rfl rfl rfl o2.out hlenH.out B2w.out
set_option maxHeartbeats 2000000 in
theorem iOpenSecret_any (k1 p1 : Int) (us : List Int) (A1 : Option Addr) (c1 : Nat) (y : List Int) (A2 : Option Addr) (c2 : Nat) (z : List Int) (A3 : Option Addr) (c3 : Nat) {l1 h1 l2 h2 l3 h3 : Nat} (w : World) (r10 : Rd w l1 h1 A1 us) (r20 : Rd w l2 h2 A2 y) (r30 : Rd w l3 h3 A3 z) (hl1 : us.length ≤ 1048576) (hl2 : y.length ≤ 1048576) (hl3 : z.length ≤ 1048576) :
    Calls Try.prog 34 #[.agg #[.int .i64 k1, .int .i64 p1, .slice A1 us.length c1], .agg #[.slice A2 y.length c2, .slice A3 z.length c3]] w (ImplZB (osL k1 p1 us y z) (osB k1 p1 us y z) w) := by
  have r1 := r10.std
  have r2 := r20.std
  have r3 := r30.std
  clear r10 r20 r30
  cases q : kbB k1 p1 us with
  | false =>
    have hv : osB k1 p1 us y z = false := by simp [osB, q]
    rw [osL_no hv, hv]
    go_enter Try.func34, Try.ntmps34
    go_wp2_with fail
    (with_reducible refine (iIsKeyBook_any k1 p1 us A1 c1 _ ((r1.alloc _).alloc _) (by omega)).mono ?_)
    rintro e w1 ⟨rfl, hb1⟩
    have s1 : w.heap.size + 2 ≤ w1.heap.size := by have := hb1.size; simpa using this
    have B1w : Below w.heap.size w w1 := (((Below.refl w.heap.size w).alloc (Nat.le_refl _) _).alloc (by simp) _).trans (hb1.mono (by simp; omega))
    have k1_1 := ((Bk.new w _ _).alloc _).st hb1
    have k2_1 := (Bk.new2 w _ _ _).st hb1
    have r1_1 := ((r1.alloc _).alloc _).st hb1
    have r2_1 := ((r2.alloc _).alloc _).st hb1
    have r3_1 := ((r3.alloc _).alloc _).st hb1
    clear hb1
    have x1_1 := k1_1.lt
    have x2_1 := k2_1.lt
    have a0 := k1_1.cell 0
    have a1 := k1_1.cell 1
    have a2 := k1_1.cell 2
    have b0 := k2_1.cell 0
    have b1 := k2_1.cell 1
    simp at a0 a1 a2 b0 b1
    go_wp2
    go_ret2
    exact ImplZB.nil rfl rfl B1w
  | true =>
    have hp := (kb_pages q).2
    cases q2 : scB y z with
    | false =>
      have hv : osB k1 p1 us y z = false := by simp [osB, q, q2]
      rw [osL_no hv, hv]
      clear hv
      go_enter Try.func34, Try.ntmps34
      go_wp2_with fail
      (with_reducible refine (iIsKeyBook_any k1 p1 us A1 c1 _ ((r1.alloc _).alloc _) (by omega)).mono ?_)
      rintro e w1 ⟨rfl, hb1⟩
      have s1 : w.heap.size + 2 ≤ w1.heap.size := by have := hb1.size; simpa using this
      have B1w : Below w.heap.size w w1 := (((Below.refl w.heap.size w).alloc (Nat.le_refl _) _).alloc (by simp) _).trans (hb1.mono (by simp; omega))
      have k1_1 := ((Bk.new w _ _).alloc _).st hb1
      have k2_1 := (Bk.new2 w _ _ _).st hb1
      have r1_1 := ((r1.alloc _).alloc _).st hb1
      have r2_1 := ((r2.alloc _).alloc _).st hb1
      have r3_1 := ((r3.alloc _).alloc _).st hb1
      clear hb1
      have x1_1 := k1_1.lt
      have x2_1 := k2_1.lt
      have a0 := k1_1.cell 0
      have a1 := k1_1.cell 1
      have a2 := k1_1.cell 2
      have b0 := k2_1.cell 0
      have b1 := k2_1.cell 1
      simp at a0 a1 a2 b0 b1
      go_wp2_with fail
      (with_reducible refine (iIsSecret_w y A2 c2 z A3 c3 _ r2_1 r3_1 hl2 hl3 trivial _ q2).mono ?_)
      rintro e w2 ⟨rfl, hb2⟩
      have s2 : w1.heap.size ≤ w2.heap.size := hb2.size
      have B2w : Below w.heap.size w w2 := B1w.trans (hb2.mono (by omega))
      have k1_2 := k1_1.st hb2
      have k2_2 := k2_1.st hb2
      have r1_2 := r1_1.st hb2
      have r2_2 := r2_1.st hb2
      have r3_2 := r3_1.st hb2
      clear hb2 k1_1 k2_1 r1_1 r2_1 r3_1 x1_1 x2_1 a0 a1 a2 b0 b1
      have x1_2 := k1_2.lt
      have x2_2 := k2_2.lt
      have a0 := k1_2.cell 0
      have a1 := k1_2.cell 1
      have a2 := k1_2.cell 2
      have b0 := k2_2.cell 0
      have b1 := k2_2.cell 1
      simp at a0 a1 a2 b0 b1
      go_wp2
      go_ret2
      exact ImplZB.nil rfl rfl B2w
    | true =>
      cases q3 : allB y 0 (p1 - 1) with
      | false =>
        have hv : osB k1 p1 us y z = false := by simp [osB, q, q2, q3]
        rw [osL_no hv, hv]
        clear hv
        go_enter Try.func34, Try.ntmps34
        go_wp2_with fail
        (with_reducible refine (iIsKeyBook_any k1 p1 us A1 c1 _ ((r1.alloc _).alloc _) (by omega)).mono ?_)
        rintro e w1 ⟨rfl, hb1⟩
        have s1 : w.heap.size + 2 ≤ w1.heap.size := by have := hb1.size; simpa using this
        have B1w : Below w.heap.size w w1 := (((Below.refl w.heap.size w).alloc (Nat.le_refl _) _).alloc (by simp) _).trans (hb1.mono (by simp; omega))
        have k1_1 := ((Bk.new w _ _).alloc _).st hb1
        have k2_1 := (Bk.new2 w _ _ _).st hb1
        have r1_1 := ((r1.alloc _).alloc _).st hb1
        have r2_1 := ((r2.alloc _).alloc _).st hb1
        have r3_1 := ((r3.alloc _).alloc _).st hb1
        clear hb1
        have x1_1 := k1_1.lt
        have x2_1 := k2_1.lt
        have a0 := k1_1.cell 0
        have a1 := k1_1.cell 1
        have a2 := k1_1.cell 2
        have b0 := k2_1.cell 0
        have b1 := k2_1.cell 1
        simp at a0 a1 a2 b0 b1
        go_wp2_with fail
        (with_reducible refine (iIsSecret_w y A2 c2 z A3 c3 _ r2_1 r3_1 hl2 hl3 trivial _ q2).mono ?_)
        rintro e w2 ⟨rfl, hb2⟩
        have s2 : w1.heap.size ≤ w2.heap.size := hb2.size
        have B2w : Below w.heap.size w w2 := B1w.trans (hb2.mono (by omega))
        have k1_2 := k1_1.st hb2
        have k2_2 := k2_1.st hb2
        have r1_2 := r1_1.st hb2
        have r2_2 := r2_1.st hb2
        have r3_2 := r3_1.st hb2
        clear hb2 k1_1 k2_1 r1_1 r2_1 r3_1 x1_1 x2_1 a0 a1 a2 b0 b1
        have x1_2 := k1_2.lt
        have x2_2 := k2_2.lt
        have a0 := k1_2.cell 0
        have a1 := k1_2.cell 1
        have a2 := k1_2.cell 2
        have b0 := k2_2.cell 0
        have b1 := k2_2.cell 1
        simp at a0 a1 a2 b0 b1
        go_wp2_with (go_at_call 71; (with_reducible refine (allWithin_v y A2 c2 0 (p1 - 1) _ r2_2 (by omega) _ q3).mono ?_); rintro e w' ⟨rfl, rfl⟩)
        go_ret2
        exact ImplZB.nil rfl rfl B2w
      | true =>
        have hv : osB k1 p1 us y z = true := by simp [osB, q, q2, q3]
        rw [osL_yes hv, hv]
        clear hv
        obtain ⟨f1, f2, f3, f4, f5⟩ := sc_facts q2
        have fk := (kb_pages q).1
        have hln : z.length ≤ (numsL k1 y).length := by rw [numsL_len]; omega
        have hlenH : Hid ((shL z (numsL k1 y) (-1)).length ≤ 1048576) := by show _ ≤ _; rw [shL_len _ _ _ hln]; omega
        go_enter Try.func34, Try.ntmps34
        go_wp2_with fail
        (with_reducible refine (iIsKeyBook_any k1 p1 us A1 c1 _ ((r1.alloc _).alloc _) (by omega)).mono ?_)
        rintro e w1 ⟨rfl, hb1⟩
        have s1 : w.heap.size + 2 ≤ w1.heap.size := by have := hb1.size; simpa using this
        have B1w : Below w.heap.size w w1 := (((Below.refl w.heap.size w).alloc (Nat.le_refl _) _).alloc (by simp) _).trans (hb1.mono (by simp; omega))
        have k1_1 := ((Bk.new w _ _).alloc _).st hb1
        have k2_1 := (Bk.new2 w _ _ _).st hb1
        have r1_1 := ((r1.alloc _).alloc _).st hb1
        have r2_1 := ((r2.alloc _).alloc _).st hb1
        have r3_1 := ((r3.alloc _).alloc _).st hb1
        clear hb1
        have x1_1 := k1_1.lt
        have x2_1 := k2_1.lt
        have a0 := k1_1.cell 0
        have a1 := k1_1.cell 1
        have a2 := k1_1.cell 2
        have b0 := k2_1.cell 0
        have b1 := k2_1.cell 1
        simp at a0 a1 a2 b0 b1
        go_wp2_with fail
        (with_reducible refine (iIsSecret_w y A2 c2 z A3 c3 _ r2_1 r3_1 hl2 hl3 trivial _ q2).mono ?_)
        rintro e w2 ⟨rfl, hb2⟩
        have s2 : w1.heap.size ≤ w2.heap.size := hb2.size
        have B2w : Below w.heap.size w w2 := B1w.trans (hb2.mono (by omega))
        have k1_2 := k1_1.st hb2
        have k2_2 := k2_1.st hb2
        have r1_2 := r1_1.st hb2
        have r2_2 := r2_1.st hb2
        have r3_2 := r3_1.st hb2
        clear hb2 k1_1 k2_1 r1_1 r2_1 r3_1 x1_1 x2_1 a0 a1 a2 b0 b1
        have x1_2 := k1_2.lt
        have x2_2 := k2_2.lt
        have a0 := k1_2.cell 0
        have a1 := k1_2.cell 1
        have a2 := k1_2.cell 2
        have b0 := k2_2.cell 0
        have b1 := k2_2.cell 1
        simp at a0 a1 a2 b0 b1
        go_wp2_with (go_at_call 71; (with_reducible refine (allWithin_v y A2 c2 0 (p1 - 1) _ r2_2 (by omega) _ q3).mono ?_); rintro e w' ⟨rfl, rfl⟩)
        go_region_held3 (fun w' => w'.cell? ⟨w.heap.size, 0, none⟩ = some (.int .i64 k1) ∧ w'.cell? ⟨w.heap.size, 1, none⟩ = some (.int .i64 p1) ∧ w'.cell? ⟨w.heap.size, 2, none⟩ = some (.slice A1 us.length c1) ∧ w'.cell? ⟨w.heap.size + 1, 0, none⟩ = some (.slice A2 y.length c2) ∧ w'.cell? ⟨w.heap.size + 1, 1, none⟩ = some (.slice A3 z.length c3))
          (first | go_keep | ((try go_split_ands); (try dsimp only); (repeat' apply And.intro) <;> (first | go_keep | ((refine (hc8 _ _ ?_).trans ?_) <;> first | assumption | omega | (simp <;> omega)) | ((refine (hc7 _ _ ?_).trans ?_) <;> first | assumption | omega | (simp <;> omega)))))
          (first
            | (go_at_call 74; ((with_reducible refine (numbersOf_any k1 p1 us A1 c1 y A2 c2 _ r2_2.drew hl2 fk f5).mono ?_); rintro e w7 ⟨A7, c7, rfl, o7, hb7⟩; (have s7 : w2.heap.size ≤ w7.heap.size := hb7.size); (have B7w := (B2w.drew).trans (hb7.mono (by simp; omega))); (have r3_7 := (r3_2.drew).st hb7); (have hc7 := (bcell hb7).1)))
            | (go_at_call 73; ((with_reducible refine (shifted_any z A3 c3 (numsL k1 y) A7 c7 (-1) _ r3_7 o7.rd' hln (by omega) f2 (numsL_bd k1 y) (.inr rfl)).mono ?_); rintro e w8 ⟨A8, c8, rfl, o8, hb8⟩; (have s8 : w7.heap.size ≤ w8.heap.size := hb8.size); (have B8w := B7w.trans (hb8.mono (by omega))); (have hc8 := (bcell hb8).1))))
        have o8H := Lib.hid o8
        have B8H := Lib.hid B8w
        clear hc7 hc8 hb7 hb8 o7 o8 B7w B8w a0 a1 a2 b0 b1 r3_7
        go_wp2
        go_ret2
        exact ImplZB.mk rfl rfl rfl o8H.out (by omega) hlenH.out B8H.out
end Go.Proofs.Yteajjbfecpffeaa
