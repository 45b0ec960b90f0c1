/-
  Contracts on log entries: the statements' helpers, and validity in the program and the reference. The conditions are bounds on lengths.
-/
import Derived.Test.YteajjbfecpffeaaIntLow
import Derived.Test.YteajjbfecpffeaaInts
namespace Go.Proofs.Yteajjbfecpffeaa
open Go.RowKit Go.ChangeShapes Go.WideShapes
set_option linter.unusedVariables false

/-- an entry's data -/
structure Ent where
  time : Int
  msg : Int
  part : Int
  seen : List Int
  shown : List Int

/-- two values do not share a block -/
def Dj (u v : Value) : Prop := u.ownBlock = none ∨ u.ownBlock ≠ v.ownBlock
theorem Dj.of_lt {w w' : World} {l1 h1 l2 h2 : Nat} {u v : Value} {xs ys : List Int} (hu : Own w l1 h1 u xs) (hv : Own w' l2 h2 v ys) (h : h1 ≤ l2) : Dj u v := by
  unfold Dj
  cases hb : u.ownBlock with
  | none => exact .inl rfl
  | some k =>
    right
    intro e
    have a := (hu.lt k hb).2.1
    have b := (hv.lt k e.symm).1
    omega

def szP (a b : Nat) (left : Int) : Int := szL (a + b) left
def sgB (s : List Int) : Bool := inB (s.length : Int) 1 8 && allB s 0 63
def enB (t m p : Int) (y z : List Int) : Bool := inB t 0 10000 && (inB m 1 999 && (inB p 0 8 && (sgB y && sgB z)))
def eqEn (t1 m1 p1 : Int) (y1 z1 : List Int) (t2 m2 p2 : Int) (y2 z2 : List Int) : Bool := decide (t1 = t2) && (decide (m1 = m2) && (decide (p1 = p2) && (eqL y1 y2 && eqL z1 z2)))
theorem eqEn_self (t m p : Int) (y z : List Int) : eqEn t m p y z t m p y z = true := by simp [eqEn, eqL]

set_option maxHeartbeats 400000 in
theorem szEntry_any (t1 m1 p1 : Int) (y1 : List Int) (A1 : Option Addr) (c1 : Nat) (z1 : List Int) (B1 : Option Addr) (d1 : Nat) (left : Int) (w : World) (hl1 : y1.length ≤ 9223372036854775807) (hl2 : z1.length ≤ 9223372036854775807) (h0 : 0 ≤ left) (h1 : left ≤ 1048576) :
    Calls Try.prog 42 #[.agg #[.int .i64 t1, .int .i64 m1, .int .i64 p1, .slice A1 y1.length c1, .slice B1 z1.length d1], .int .i64 left] w fun e w' => e = .returned (.int .i64 (szL (y1.length + z1.length) left)) ∧ Below w.heap.size w w' := by
  by_cases h : left - (y1.length : Int) < 0
  · have hs := Lib.hid (show szL (y1.length + z1.length) left = -1 by simp only [szL]; rw [if_pos (by omega)])
    have hs1 := Lib.hid (show szL y1.length left = -1 by simp [szL, h])
    have hlt : szL y1.length left < 0 := by rw [hs1.out]; omega
    go_enter Try.func42, Try.ntmps42
    go_wp2_with (go_at_call 90; refine (szIntS_any y1 _ _ _ _ hl1 h0 h1).mono ?_; rintro e w' ⟨rfl, rfl⟩)
    go_ret
    exact ⟨by rw [hs.out]; rfl, (Below.refl _ _).alloc (Nat.le_refl _) _⟩
  · have hs1 := Lib.hid (show szL y1.length left = left - (y1.length : Int) by simp only [szL]; rw [if_neg h])
    have hge : ¬ szL y1.length left < 0 := by rw [hs1.out]; omega
    have b0 : 0 ≤ szL y1.length left := by omega
    have b1 : szL y1.length left ≤ 1048576 := by rw [hs1.out]; omega
    have hs2 := Lib.hid (show szL z1.length (szL y1.length left) = szL (y1.length + z1.length) left by
      rw [hs1.out]; simp only [szL]
      by_cases h2 : left - (y1.length : Int) - (z1.length : Int) < 0
      · rw [if_pos h2, if_pos (by omega)]
      · rw [if_neg h2, if_neg (by omega)]; omega)
    by_cases h2 : szL (y1.length + z1.length) left < 0
    · have h3 : szL z1.length (szL y1.length left) < 0 := by rw [hs2.out]; exact h2
      have hs3 := Lib.hid (show szL (y1.length + z1.length) left = -1 by
        by_cases h4 : left - ((y1.length + z1.length : Nat) : Int) < 0
        · simp only [szL]; rw [if_pos h4]
        · simp only [szL] at h2; rw [if_neg h4] at h2; omega)
      clear h2
      go_enter Try.func42, Try.ntmps42
      go_wp2_with (first
        | (go_at_call 90; ((with_reducible refine (szIntS_any y1 _ _ left _ hl1 h0 h1).mono ?_); rintro e w' ⟨rfl, rfl⟩))
        | (go_at_call 90; ((with_reducible refine (szIntS_any z1 _ _ (szL y1.length left) _ hl2 b0 b1).mono ?_); rintro e w' ⟨rfl, rfl⟩)))
      go_ret
      exact ⟨by rw [hs3.out]; rfl, (Below.refl _ _).alloc (Nat.le_refl _) _⟩
    · have h3 : ¬ szL z1.length (szL y1.length left) < 0 := by rw [hs2.out]; exact h2
      clear h2
      go_enter Try.func42, Try.ntmps42
      go_wp2_with (first
        | (go_at_call 90; ((with_reducible refine (szIntS_any y1 _ _ left _ hl1 h0 h1).mono ?_); rintro e w' ⟨rfl, rfl⟩))
        | (go_at_call 90; ((with_reducible refine (szIntS_any z1 _ _ (szL y1.length left) _ hl2 b0 b1).mono ?_); rintro e w' ⟨rfl, rfl⟩)))
      go_ret
      exact ⟨by rw [← hs2.out]; rfl, (Below.refl _ _).alloc (Nat.le_refl _) _⟩
theorem szEntry_yes (t1 m1 p1 : Int) (y1 : List Int) (A1 : Option Addr) (c1 : Nat) (z1 : List Int) (B1 : Option Addr) (d1 : Nat) (left : Int) (w : World) (h : ((y1.length + z1.length : Nat) : Int) ≤ left) (hl1 : y1.length ≤ 9223372036854775807) (hl2 : z1.length ≤ 9223372036854775807) (h1 : left ≤ 1048576) :
    Calls Try.prog 42 #[.agg #[.int .i64 t1, .int .i64 m1, .int .i64 p1, .slice A1 y1.length c1, .slice B1 z1.length d1], .int .i64 left] w fun e w' => e = .returned (.int .i64 (left - ((y1.length + z1.length : Nat) : Int))) ∧ Below w.heap.size w w' :=
  (szEntry_any t1 m1 p1 y1 A1 c1 z1 B1 d1 left w hl1 hl2 (by omega) h1).mono fun e w' ⟨he, hw⟩ => ⟨by rw [he]; simp only [szL]; rw [if_neg (by omega)], hw⟩
theorem szEntry_no (t1 m1 p1 : Int) (y1 : List Int) (A1 : Option Addr) (c1 : Nat) (z1 : List Int) (B1 : Option Addr) (d1 : Nat) (left : Int) (w : World) (h : left < ((y1.length + z1.length : Nat) : Int)) (hl1 : y1.length ≤ 9223372036854775807) (hl2 : z1.length ≤ 9223372036854775807) (h1 : 0 ≤ left ∧ left ≤ 1048576) :
    Calls Try.prog 42 #[.agg #[.int .i64 t1, .int .i64 m1, .int .i64 p1, .slice A1 y1.length c1, .slice B1 z1.length d1], .int .i64 left] w fun e w' => e = .returned (.int .i64 (-1)) ∧ Below w.heap.size w w' :=
  (szEntry_any t1 m1 p1 y1 A1 c1 z1 B1 d1 left w hl1 hl2 h1.1 h1.2).mono fun e w' ⟨he, hw⟩ => ⟨by rw [he]; simp only [szL]; rw [if_pos (by omega)], hw⟩
set_option maxHeartbeats 2000000 in
theorem toEntry_any (t1 m1 p1 : Int) (y1 : List Int) (A1 : Option Addr) (c1 : Nat) (z1 : List Int) (B1 : Option Addr) (d1 : Nat) {l h l' h' : Nat} (w : World) (hr1 : Rd w l h A1 y1) (hr2 : Rd w l' h' B1 z1) (hl1 : y1.length ≤ 1048576) (hl2 : z1.length ≤ 1048576) :
    Calls Try.prog 45 #[.agg #[.int .i64 t1, .int .i64 m1, .int .i64 p1, .slice A1 y1.length c1, .slice B1 z1.length d1]] w fun e w' => ∃ A c B d, e = .returned (.agg #[.int .i64 t1, .int .i64 m1, .int .i64 p1, .slice A y1.length c, .slice B z1.length d]) ∧
      Own w' w.heap.size w'.heap.size (.slice A y1.length c) y1 ∧ Own w' w.heap.size w'.heap.size (.slice B z1.length d) z1 ∧ Dj (.slice A y1.length c) (.slice B z1.length d) ∧ Below w.heap.size w w' := by
  have hr1 := hr1.std
  have hr2 := hr2.std
  go_enter Try.func45, Try.ntmps45
  go_wp2_with fail
  have hW : ∀ o1 o2 o3 : Obj, (((w.alloc o1).alloc o2).alloc o3).heap.size = w.heap.size + 3 := by intros; simp
  refine (toIntS_any y1 A1 c1 _ (((hr1.alloc _).alloc _).alloc _) (by omega)).mono ?_
  rintro e w1 ⟨v1, rfl, o1, hb1⟩
  obtain ⟨A, c, rfl, -, -⟩ := o1.rd
  have r2 := (((hr2.alloc _).alloc _).alloc _).st hb1
  have s1 : w.heap.size + 3 ≤ w1.heap.size := by have := hb1.size; rwa [hW] at this
  have P1 := ((((Below.refl w.heap.size w).alloc (Nat.le_refl _) _).alloc (by simp) _).alloc (by simp; omega) _).trans (hb1.mono (by rw [hW]; omega))
  have k0 := (((Bk.new w _ _).alloc _).alloc _).st hb1
  have k1 := ((Bk.new2 w _ _ _).alloc _).st hb1
  have k2 : Bk w1 (w.heap.size + 1 + 1) _ _ := (Bk.new3 w _ _ _ _).st hb1
  have o1' : Own w1 (w.heap.size + 3) w1.heap.size (.slice A y1.length c) y1 := by rw [hW] at o1; exact o1
  have a4 := k0.cell 4
  have b3 := k2.cell 3
  have f3 := k2.frozen 3
  simp at a4 b3
  have o1H := Lib.hid o1'
  have k1H := Lib.hid k1
  have k2H := Lib.hid k2
  have P1H := Lib.hid P1
  clear o1 o1' k0 k1 k2 P1 hb1 hr1 hr2 hW
  have z0 : w.heap.size < w1.heap.size := by omega
  go_wp2_with fail
  refine (toIntS_any z1 B1 d1 _ (r2.setCell (p := ⟨w.heap.size + 1 + 1, 3, none⟩) (by dsimp only; omega) (.slice A y1.length c)) (by omega)).mono ?_
  rintro e w2 ⟨v2, rfl, o2, hb2⟩
  obtain ⟨B, d, rfl, -, -⟩ := o2.rd
  rw [size_setCell] at o2
  have s2 : w1.heap.size ≤ w2.heap.size := by have := hb2.size; rwa [size_setCell] at this
  have g1 := ((k1H.out.far (p := ⟨w.heap.size + 1 + 1, 3, none⟩) (by dsimp only; omega) (.slice A y1.length c)).st hb2)
  have g2 := ((k2H.out.set_ 3 (.slice A y1.length c)).st hb2)
  have u1 := (o1H.out.setCell (p := ⟨w.heap.size + 1 + 1, 3, none⟩) (.inl (by dsimp only; omega)) (.slice A y1.length c)).st hb2
  have P2 := (P1H.out.setCell (p := ⟨w.heap.size + 1 + 1, 3, none⟩) (by dsimp only; omega) (.slice A y1.length c)).trans (hb2.mono (by rw [size_setCell]; omega))
  have hdj := Dj.of_lt u1 o2 (Nat.le_refl _)
  have a0 := g1.cell 0
  have a1 := g1.cell 1
  have a2 := g1.cell 2
  have a3 := g1.cell 3
  have a4 := g1.cell 4
  have e0 := g1.frozen 0
  have e1 := g1.frozen 1
  have e2 := g1.frozen 2
  have e3 := g1.frozen 3
  have e4 := g1.frozen 4
  have b0 := g2.cell 0
  have b1 := g2.cell 1
  have b2 := g2.cell 2
  have b3 := g2.cell 3
  have b4 := g2.cell 4
  have f4 := g2.frozen 4
  simp at a0 a1 a2 a3 a4 b0 b1 b2 b3 b4
  have u1H := Lib.hid u1
  have o2H := Lib.hid o2
  have P2H := Lib.hid P2
  have djH := Lib.hid hdj
  clear g1 g2 u1 o2 P2 hdj hb2 k1H k2H o1H P1H f3 z0 r2
  go_wp2_with fail
  refine bodyPost_ret (v := .agg #[.int .i64 t1, .int .i64 m1, .int .i64 p1, .slice A y1.length c, .slice B z1.length d]) (by simp [results, Try.results45, go_sem, a0, a1, a2, a3, a4]) rfl ⟨A, c, B, d, rfl, ?_, ?_, djH.out, ?_⟩
  · simp only [size_setCell]
    exact ((((((u1H.out.setCell (.inl (by dsimp only; omega)) _).setCell (.inl (by dsimp only; omega)) _).setCell (.inl (by dsimp only; omega)) _).setCell (.inl (by dsimp only; omega)) _).setCell (.inl (by dsimp only; omega)) _).setCell (.inl (by dsimp only; omega)) _).mono (by omega) (by omega)
  · simp only [size_setCell]
    exact ((((((o2H.out.setCell (.inl (by dsimp only; omega)) _).setCell (.inl (by dsimp only; omega)) _).setCell (.inl (by dsimp only; omega)) _).setCell (.inl (by dsimp only; omega)) _).setCell (.inl (by dsimp only; omega)) _).setCell (.inl (by dsimp only; omega)) _).mono (by omega) (by omega)
  · exact (((((P2H.out.setCell (by dsimp only; omega) _).setCell (by dsimp only; omega) _).setCell (by dsimp only; omega) _).setCell (by dsimp only; omega) _).setCell (by dsimp only; omega) _).setCell (by dsimp only; omega) _

set_option maxHeartbeats 4000000 in
theorem eqEntry_b (t1 m1 p1 : Int) (y1 : List Int) (A1 : Option Addr) (c1 : Nat) (z1 : List Int) (B1 : Option Addr) (d1 : Nat) (t2 m2 p2 : Int) (y2 : List Int) (A2 : Option Addr) (c2 : Nat) (z2 : List Int) (B2 : Option Addr) (d2 : Nat) {l1 h1 l2 h2 l3 h3 l4 h4 : Nat} (w : World) (ry1 : Rd w l1 h1 A1 y1) (rz1 : Rd w l2 h2 B1 z1) (ry2 : Rd w l3 h3 A2 y2) (rz2 : Rd w l4 h4 B2 z2)
    (hy1 : y1.length ≤ 9223372036854775806) (hz1 : z1.length ≤ 9223372036854775806) (hy2 : y2.length ≤ 9223372036854775806) (hz2 : z2.length ≤ 9223372036854775806) :
    Calls Try.prog 52 #[.agg #[.int .i64 t1, .int .i64 m1, .int .i64 p1, .slice A1 y1.length c1, .slice B1 z1.length d1], .agg #[.int .i64 t2, .int .i64 m2, .int .i64 p2, .slice A2 y2.length c2, .slice B2 z2.length d2]] w fun e w' => e = .returned (.bool (eqEn t1 m1 p1 y1 z1 t2 m2 p2 y2 z2)) ∧ Below w.heap.size w w' := by
  have hb : ∀ o1 o2 : Obj, Below w.heap.size w ((w.alloc o1).alloc o2) := fun o1 o2 => ((Below.refl _ _).alloc (Nat.le_refl _) _).alloc (by simp) _
  by_cases g0 : t1 = t2
  · have i0 : (t1 != t2) = false := by simp [g0]
    by_cases g1 : m1 = m2
    · have i1 : (m1 != m2) = false := by simp [g1]
      by_cases g2 : p1 = p2
      · have i2 : (p1 != p2) = false := by simp [g2]
        cases h5 : eqL y1 y2 with
        | false =>
          have h5H := Lib.hid h5
          have hq := Lib.hid (show eqEn t1 m1 p1 y1 z1 t2 m2 p2 y2 z2 = false by simp [eqEn, h5])
          clear g0 g1 g2
          go_enter Try.func52, Try.ntmps52
          go_wp2_with (first | (go_at_call 97; ((with_reducible refine (eqIntS_any y1 y2 A1 A2 c1 c2 _ ((ry1.alloc _).alloc _) ((ry2.alloc _).alloc _) (by omega) (by omega)).mono ?_); rintro e w' ⟨rfl, n1, rfl⟩)) | (go_at_call 97; ((with_reducible refine (eqIntS_any z1 z2 B1 B2 d1 d2 _ (((rz1.alloc _).alloc _).drewN n1) (((rz2.alloc _).alloc _).drewN n1) (by omega) (by omega)).mono ?_); rintro e w' ⟨rfl, n2, rfl⟩)))
          go_ret
          exact ⟨by rw [hq.out]; rfl, below_drewN (hb _ _) _⟩
        | true =>
          cases h6 : eqL z1 z2 with
          | true =>
            have hq := Lib.hid (show eqEn t1 m1 p1 y1 z1 t2 m2 p2 y2 z2 = true by simp [eqEn, g0, g1, g2, h5, h6])
            clear g0 g1 g2
            go_enter Try.func52, Try.ntmps52
            go_wp2_with (first | (go_at_call 97; ((with_reducible refine (eqIntS_any y1 y2 A1 A2 c1 c2 _ ((ry1.alloc _).alloc _) ((ry2.alloc _).alloc _) (by omega) (by omega)).mono ?_); rintro e w' ⟨rfl, n1, rfl⟩)) | (go_at_call 97; ((with_reducible refine (eqIntS_any z1 z2 B1 B2 d1 d2 _ (((rz1.alloc _).alloc _).drewN n1) (((rz2.alloc _).alloc _).drewN n1) (by omega) (by omega)).mono ?_); rintro e w' ⟨rfl, n2, rfl⟩)))
            go_ret
            exact ⟨by rw [hq.out]; rfl, below_drewN (hb _ _) _⟩
          | false =>
            have hq := Lib.hid (show eqEn t1 m1 p1 y1 z1 t2 m2 p2 y2 z2 = false by simp [eqEn, g0, g1, g2, h5, h6])
            clear g0 g1 g2
            go_enter Try.func52, Try.ntmps52
            go_wp2_with (first | (go_at_call 97; ((with_reducible refine (eqIntS_any y1 y2 A1 A2 c1 c2 _ ((ry1.alloc _).alloc _) ((ry2.alloc _).alloc _) (by omega) (by omega)).mono ?_); rintro e w' ⟨rfl, n1, rfl⟩)) | (go_at_call 97; ((with_reducible refine (eqIntS_any z1 z2 B1 B2 d1 d2 _ (((rz1.alloc _).alloc _).drewN n1) (((rz2.alloc _).alloc _).drewN n1) (by omega) (by omega)).mono ?_); rintro e w' ⟨rfl, n2, rfl⟩)))
            go_ret
            exact ⟨by rw [hq.out]; rfl, below_drewN (hb _ _) _⟩
      · have i2 : (p1 != p2) = true := by simp [g2]
        have hq := Lib.hid (show eqEn t1 m1 p1 y1 z1 t2 m2 p2 y2 z2 = false by simp [eqEn, g2])
        clear g0 g1 g2
        go_enter Try.func52, Try.ntmps52
        go_wp2
        go_ret
        exact ⟨by rw [hq.out]; rfl, hb _ _⟩
    · have i1 : (m1 != m2) = true := by simp [g1]
      have hq := Lib.hid (show eqEn t1 m1 p1 y1 z1 t2 m2 p2 y2 z2 = false by simp [eqEn, g1])
      clear g0 g1
      go_enter Try.func52, Try.ntmps52
      go_wp2
      go_ret
      exact ⟨by rw [hq.out]; rfl, hb _ _⟩
  · have i0 : (t1 != t2) = true := by simp [g0]
    have hq := Lib.hid (show eqEn t1 m1 p1 y1 z1 t2 m2 p2 y2 z2 = false by simp [eqEn, g0])
    clear g0
    go_enter Try.func52, Try.ntmps52
    go_wp2
    go_ret
    exact ⟨by rw [hq.out]; rfl, hb _ _⟩
theorem lgSignals_any (s : List Int) (A : Option Addr) (c : Nat) {l h : Nat} (w : World) (hr : Rd w l h A s) (hl : s.length ≤ 9223372036854775806) :
    Calls Try.prog 125 #[.slice A s.length c] w fun e w' => e = .returned (.bool (sgB s)) ∧ w = w' := by
  cases h1 : inB (s.length : Int) 1 8 with
  | true =>
    have hq := Lib.hid (show sgB s = allB s 0 63 by simp [sgB, h1])
    go_enter Try.func125, Try.ntmps125
    go_wp2_with (first
      | (go_at_call 104; refine (l1In_any _ _ _ _).mono ?_; rintro e w' ⟨rfl, rfl⟩)
      | (go_at_call 111; refine (l1All_any s A c _ _ _ hr (by omega)).mono ?_; rintro e w' ⟨rfl, rfl⟩))
    go_ret
    exact ⟨by rw [hq.out]; rfl, rfl⟩
  | false =>
    have hq := Lib.hid (show sgB s = false by simp [sgB, h1])
    go_enter Try.func125, Try.ntmps125
    go_wp2_with (first
      | (go_at_call 104; refine (l1In_any _ _ _ _).mono ?_; rintro e w' ⟨rfl, rfl⟩))
    go_ret
    exact ⟨by rw [hq.out]; rfl, rfl⟩
set_option maxHeartbeats 4000000 in
theorem lgEntry_any (t1 m1 p1 : Int) (y1 : List Int) (A1 : Option Addr) (c1 : Nat) (z1 : List Int) (B1 : Option Addr) (d1 : Nat) {l1 h1 l2 h2 : Nat} (w : World) (ry1 : Rd w l1 h1 A1 y1) (rz1 : Rd w l2 h2 B1 z1) (hy1 : y1.length ≤ 9223372036854775806) (hz1 : z1.length ≤ 9223372036854775806) :
    Calls Try.prog 91 #[.agg #[.int .i64 t1, .int .i64 m1, .int .i64 p1, .slice A1 y1.length c1, .slice B1 z1.length d1]] w fun e w' => e = .returned (.bool (enB t1 m1 p1 y1 z1)) ∧ Below w.heap.size w w' := by
  have hb : ∀ o1 : Obj, Below w.heap.size w (w.alloc o1) := fun o1 => (Below.refl _ _).alloc (Nat.le_refl _) _
  cases g0 : inB t1 0 10000 with
  | false =>
    have hq := Lib.hid (show enB t1 m1 p1 y1 z1 = false by simp [enB, g0])
    go_enter Try.func91, Try.ntmps91
    go_wp2_with (first | (go_at_call 104; refine (l1In_any _ _ _ _).mono ?_; rintro e w' ⟨rfl, rfl⟩) | (go_at_call 125; ((with_reducible refine (lgSignals_any y1 A1 c1 _ (ry1.alloc _) hy1).mono ?_); rintro e w' ⟨rfl, rfl⟩)) | (go_at_call 125; ((with_reducible refine (lgSignals_any z1 B1 d1 _ (rz1.alloc _) hz1).mono ?_); rintro e w' ⟨rfl, rfl⟩)))
    go_ret
    exact ⟨by rw [hq.out]; rfl, hb _⟩
  | true =>
    cases g1 : inB m1 1 999 with
    | false =>
      have hq := Lib.hid (show enB t1 m1 p1 y1 z1 = false by simp [enB, g1])
      go_enter Try.func91, Try.ntmps91
      go_wp2_with (first | (go_at_call 104; refine (l1In_any _ _ _ _).mono ?_; rintro e w' ⟨rfl, rfl⟩) | (go_at_call 125; ((with_reducible refine (lgSignals_any y1 A1 c1 _ (ry1.alloc _) hy1).mono ?_); rintro e w' ⟨rfl, rfl⟩)) | (go_at_call 125; ((with_reducible refine (lgSignals_any z1 B1 d1 _ (rz1.alloc _) hz1).mono ?_); rintro e w' ⟨rfl, rfl⟩)))
      go_ret
      exact ⟨by rw [hq.out]; rfl, hb _⟩
    | true =>
      cases g2 : inB p1 0 8 with
      | false =>
        have hq := Lib.hid (show enB t1 m1 p1 y1 z1 = false by simp [enB, g2])
        go_enter Try.func91, Try.ntmps91
        go_wp2_with (first | (go_at_call 104; refine (l1In_any _ _ _ _).mono ?_; rintro e w' ⟨rfl, rfl⟩) | (go_at_call 125; ((with_reducible refine (lgSignals_any y1 A1 c1 _ (ry1.alloc _) hy1).mono ?_); rintro e w' ⟨rfl, rfl⟩)) | (go_at_call 125; ((with_reducible refine (lgSignals_any z1 B1 d1 _ (rz1.alloc _) hz1).mono ?_); rintro e w' ⟨rfl, rfl⟩)))
        go_ret
        exact ⟨by rw [hq.out]; rfl, hb _⟩
      | true =>
        cases g3 : sgB y1 with
        | false =>
          have hq := Lib.hid (show enB t1 m1 p1 y1 z1 = false by simp [enB, g3])
          go_enter Try.func91, Try.ntmps91
          go_wp2_with (first | (go_at_call 104; refine (l1In_any _ _ _ _).mono ?_; rintro e w' ⟨rfl, rfl⟩) | (go_at_call 125; ((with_reducible refine (lgSignals_any y1 A1 c1 _ (ry1.alloc _) hy1).mono ?_); rintro e w' ⟨rfl, rfl⟩)) | (go_at_call 125; ((with_reducible refine (lgSignals_any z1 B1 d1 _ (rz1.alloc _) hz1).mono ?_); rintro e w' ⟨rfl, rfl⟩)))
          go_ret
          exact ⟨by rw [hq.out]; rfl, hb _⟩
        | true =>
          have hq := Lib.hid (show enB t1 m1 p1 y1 z1 = sgB z1 by simp [enB, g0, g1, g2, g3])
          go_enter Try.func91, Try.ntmps91
          go_wp2_with (first | (go_at_call 104; refine (l1In_any _ _ _ _).mono ?_; rintro e w' ⟨rfl, rfl⟩) | (go_at_call 125; ((with_reducible refine (lgSignals_any y1 A1 c1 _ (ry1.alloc _) hy1).mono ?_); rintro e w' ⟨rfl, rfl⟩)) | (go_at_call 125; ((with_reducible refine (lgSignals_any z1 B1 d1 _ (rz1.alloc _) hz1).mono ?_); rintro e w' ⟨rfl, rfl⟩)))
          go_ret
          exact ⟨by rw [hq.out]; rfl, hb _⟩
set_option maxHeartbeats 4000000 in
theorem iIsEntry_any (t1 m1 p1 : Int) (y1 : List Int) (A1 : Option Addr) (c1 : Nat) (z1 : List Int) (B1 : Option Addr) (d1 : Nat) {l1 h1 l2 h2 : Nat} (w : World) (ry1 : Rd w l1 h1 A1 y1) (rz1 : Rd w l2 h2 B1 z1) (hy1 : y1.length ≤ 9223372036854775806) (hz1 : z1.length ≤ 9223372036854775806) :
    Calls Try.prog 94 #[.agg #[.int .i64 t1, .int .i64 m1, .int .i64 p1, .slice A1 y1.length c1, .slice B1 z1.length d1]] w fun e w' => e = .returned (.bool (enB t1 m1 p1 y1 z1)) ∧ Below w.heap.size w w' := by
  have hb : ∀ o1 : Obj, Below w.heap.size w (w.alloc o1) := fun o1 => (Below.refl _ _).alloc (Nat.le_refl _) _
  cases g0 : inB t1 0 10000 with
  | false =>
    have hq := Lib.hid (show enB t1 m1 p1 y1 z1 = false by simp [enB, sgB, g0])
    go_enter Try.func94, Try.ntmps94
    go_wp2_with (first | (go_at_call 86; refine (within_any _ _ _ _).mono ?_; rintro e w' ⟨rfl, rfl⟩) | (go_at_call 71; ((with_reducible refine (allWithin_any y1 A1 c1 _ _ _ (ry1.alloc _) (by omega)).mono ?_); rintro e w' ⟨rfl, rfl⟩)) | (go_at_call 71; ((with_reducible refine (allWithin_any z1 B1 d1 _ _ _ (rz1.alloc _) (by omega)).mono ?_); rintro e w' ⟨rfl, rfl⟩)))
    go_ret
    exact ⟨by rw [hq.out]; rfl, hb _⟩
  | true =>
    cases g1 : inB m1 1 999 with
    | false =>
      have hq := Lib.hid (show enB t1 m1 p1 y1 z1 = false by simp [enB, sgB, g1])
      go_enter Try.func94, Try.ntmps94
      go_wp2_with (first | (go_at_call 86; refine (within_any _ _ _ _).mono ?_; rintro e w' ⟨rfl, rfl⟩) | (go_at_call 71; ((with_reducible refine (allWithin_any y1 A1 c1 _ _ _ (ry1.alloc _) (by omega)).mono ?_); rintro e w' ⟨rfl, rfl⟩)) | (go_at_call 71; ((with_reducible refine (allWithin_any z1 B1 d1 _ _ _ (rz1.alloc _) (by omega)).mono ?_); rintro e w' ⟨rfl, rfl⟩)))
      go_ret
      exact ⟨by rw [hq.out]; rfl, hb _⟩
    | true =>
      cases g2 : inB p1 0 8 with
      | false =>
        have hq := Lib.hid (show enB t1 m1 p1 y1 z1 = false by simp [enB, sgB, g2])
        go_enter Try.func94, Try.ntmps94
        go_wp2_with (first | (go_at_call 86; refine (within_any _ _ _ _).mono ?_; rintro e w' ⟨rfl, rfl⟩) | (go_at_call 71; ((with_reducible refine (allWithin_any y1 A1 c1 _ _ _ (ry1.alloc _) (by omega)).mono ?_); rintro e w' ⟨rfl, rfl⟩)) | (go_at_call 71; ((with_reducible refine (allWithin_any z1 B1 d1 _ _ _ (rz1.alloc _) (by omega)).mono ?_); rintro e w' ⟨rfl, rfl⟩)))
        go_ret
        exact ⟨by rw [hq.out]; rfl, hb _⟩
      | true =>
        cases g3 : inB (y1.length : Int) 1 8 with
        | false =>
          have hq := Lib.hid (show enB t1 m1 p1 y1 z1 = false by simp [enB, sgB, g3])
          go_enter Try.func94, Try.ntmps94
          go_wp2_with (first | (go_at_call 86; refine (within_any _ _ _ _).mono ?_; rintro e w' ⟨rfl, rfl⟩) | (go_at_call 71; ((with_reducible refine (allWithin_any y1 A1 c1 _ _ _ (ry1.alloc _) (by omega)).mono ?_); rintro e w' ⟨rfl, rfl⟩)) | (go_at_call 71; ((with_reducible refine (allWithin_any z1 B1 d1 _ _ _ (rz1.alloc _) (by omega)).mono ?_); rintro e w' ⟨rfl, rfl⟩)))
          go_ret
          exact ⟨by rw [hq.out]; rfl, hb _⟩
        | true =>
          cases g4 : allB y1 0 63 with
          | false =>
            have hq := Lib.hid (show enB t1 m1 p1 y1 z1 = false by simp [enB, sgB, g4])
            go_enter Try.func94, Try.ntmps94
            go_wp2_with (first | (go_at_call 86; refine (within_any _ _ _ _).mono ?_; rintro e w' ⟨rfl, rfl⟩) | (go_at_call 71; ((with_reducible refine (allWithin_any y1 A1 c1 _ _ _ (ry1.alloc _) (by omega)).mono ?_); rintro e w' ⟨rfl, rfl⟩)) | (go_at_call 71; ((with_reducible refine (allWithin_any z1 B1 d1 _ _ _ (rz1.alloc _) (by omega)).mono ?_); rintro e w' ⟨rfl, rfl⟩)))
            go_ret
            exact ⟨by rw [hq.out]; rfl, hb _⟩
          | true =>
            cases g5 : inB (z1.length : Int) 1 8 with
            | false =>
              have hq := Lib.hid (show enB t1 m1 p1 y1 z1 = false by simp [enB, sgB, g5])
              go_enter Try.func94, Try.ntmps94
              go_wp2_with (first | (go_at_call 86; refine (within_any _ _ _ _).mono ?_; rintro e w' ⟨rfl, rfl⟩) | (go_at_call 71; ((with_reducible refine (allWithin_any y1 A1 c1 _ _ _ (ry1.alloc _) (by omega)).mono ?_); rintro e w' ⟨rfl, rfl⟩)) | (go_at_call 71; ((with_reducible refine (allWithin_any z1 B1 d1 _ _ _ (rz1.alloc _) (by omega)).mono ?_); rintro e w' ⟨rfl, rfl⟩)))
              go_ret
              exact ⟨by rw [hq.out]; rfl, hb _⟩
            | true =>
              have hq := Lib.hid (show enB t1 m1 p1 y1 z1 = allB z1 0 63 by simp [enB, sgB, g0, g1, g2, g3, g4, g5])
              go_enter Try.func94, Try.ntmps94
              go_wp2_with (first | (go_at_call 86; refine (within_any _ _ _ _).mono ?_; rintro e w' ⟨rfl, rfl⟩) | (go_at_call 71; ((with_reducible refine (allWithin_any y1 A1 c1 _ _ _ (ry1.alloc _) (by omega)).mono ?_); rintro e w' ⟨rfl, rfl⟩)) | (go_at_call 71; ((with_reducible refine (allWithin_any z1 B1 d1 _ _ _ (rz1.alloc _) (by omega)).mono ?_); rintro e w' ⟨rfl, rfl⟩)))
              go_ret
              exact ⟨by rw [hq.out]; rfl, hb _⟩
end Go.Proofs.Yteajjbfecpffeaa
