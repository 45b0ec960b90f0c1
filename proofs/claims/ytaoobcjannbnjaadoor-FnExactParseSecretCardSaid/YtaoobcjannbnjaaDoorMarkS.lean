/-
  The statements' helpers that mark a secret's memory and look whether the marks are held. The conditions are bounds on lengths.
-/
import Derived.Test.YtaoobcjannbnjaaDoorMarkE
import Derived.Test.YtaoobcjannbnjaaDoorSecret
import Derived.Test.YtaoobcjannbnjaaDoorLawKit
namespace Go.Proofs.YtaoobcjannbnjaaDoor
open Go.RowKit Go.ChangeShapes Go.WideShapes
set_option linter.unusedVariables false
set_option linter.unusedSimpArgs false

theorem out_of_tight {w : World} {lo hi l r : Nat} {u : Value} {s : List Int} (h : Own w lo hi u s) (t : ∀ b, l ≤ b → b < r → u.ownBlock = some b ∧ lo ≤ b ∧ b < hi) {b : Nat} (hb : w.heap.size ≤ b) : b < l ∨ r ≤ b := by
  by_cases h1 : l ≤ b ∧ b < r
  · have := (h.lt b (t b h1.1 h1.2).1).2.2
    omega
  · omega
theorem Own.apart {w w' : World} {lo hi l r : Nat} {u v : Value} {z : List Int} (h2 : Own w lo hi v z) (hd : Dj u v) (t : ∀ b, l ≤ b → b < r → u.ownBlock = some b ∧ lo ≤ b ∧ b < hi) (hf : Fr l r w w') : Own w' lo hi v z :=
  h2.keep fun k hk _ _ h3 => hf.block k h3 (by
    by_cases hx : l ≤ k ∧ k < r
    · obtain ⟨o1, _⟩ := t k hx.1 hx.2
      rcases hd with d | d
      · rw [o1] at d; cases d
      · exact absurd (by rw [o1, hk]) d
    · omega)

theorem dj_turn {p q : Value} (h : Dj p q) : Dj q p := by
  unfold Dj at *
  cases hq : q.ownBlock with
  | none => exact .inl rfl
  | some z =>
    right
    rcases h with h | h
    · rw [h]; simp
    · rw [← hq]; exact fun e => h e.symm
set_option maxHeartbeats 1000000 in
theorem markSecret_b (y1 : List Int) (A1 : Option Addr) (c1 : Nat) (z1 : List Int) (B1 : Option Addr) (d1 : Nat) (k0 : Int) {lo hi : Nat} (w : World) (o1 : Own w lo hi (.slice A1 y1.length c1) y1) (o2 : Own w lo hi (.slice B1 z1.length d1) z1)
    (dj : Dj (.slice A1 y1.length c1) (.slice B1 z1.length d1)) (h0 : 0 ≤ k0) (h1 : k0 + y1.length + z1.length ≤ 1000000000000) :
    Calls Tryd.prog 39 #[.agg #[.slice A1 y1.length c1, .slice B1 z1.length d1], .int .i64 k0] w fun e w' => e = .returned (.int .i64 (k0 + y1.length + z1.length)) ∧
      Own w' lo hi (.slice A1 y1.length c1) (fill k0 y1.length) ∧ Own w' lo hi (.slice B1 z1.length d1) (fill (k0 + y1.length) z1.length) ∧ Fr lo hi w w' := by
  obtain ⟨l1, r1, t1, u1⟩ := o1.tight
  obtain ⟨l2, r2, t2, u2⟩ := o2.tight
  have hx := out_of_tight o1 u1 (Nat.le_refl w.heap.size)
  go_enter Tryd.func39, Tryd.ntmps39
  go_wp2_with fail
  refine (markIntS_b y1 A1 c1 k0 _ (t1.alloc _) h0 (by omega)).mono ?_
  rintro e w1 ⟨rfl, p1, f1⟩
  have q2 := (o2.alloc _).apart dj u1 f1
  have k1 := (Bk.new w _ _).fr f1 hx
  have b0 := k1.cell 0
  have b1 := k1.cell 1
  have hl := k1.lt
  simp at b0 b1
  have F1 := Lib.hid (((Fr.refl l1 r1 w).alloc _).trans f1)
  have P1 := Lib.hid p1
  have Q2 := Lib.hid q2
  clear p1 f1 q2 k1 hx
  go_wp2_with fail
  obtain ⟨l3, r3, t3, u3⟩ := Q2.out.tight
  refine (markIntS_b z1 B1 d1 (k0 + y1.length) _ t3 (by omega) (by omega)).mono ?_
  rintro e w2 ⟨rfl, p2, f2⟩
  go_wp2
  go_ret
  refine ⟨rfl, ?_, p2.wide fun b h1 h2 => (u3 b h1 h2).2, (F1.out.widen fun b h1 h2 => (u1 b h1 h2).2).trans (f2.widen fun b h1 h2 => (u3 b h1 h2).2)⟩
  exact (P1.out.wide fun b h1 h2 => (u1 b h1 h2).2).apart (dj_turn dj) u3 f2
set_option maxHeartbeats 1000000 in
theorem heldSecret_b (y1 : List Int) (A1 : Option Addr) (c1 : Nat) (z1 : List Int) (B1 : Option Addr) (d1 : Nat) (k0 : Int) {l h l' h' : Nat} (w : World) (r1 : Rd w l h A1 (fill k0 y1.length)) (r2 : Rd w l' h' B1 (fill (k0 + y1.length) z1.length))
    (h0 : 0 ≤ k0) (h1 : k0 + y1.length + z1.length ≤ 1000000000000) :
    Calls Tryd.prog 40 #[.agg #[.slice A1 y1.length c1, .slice B1 z1.length d1], .int .i64 k0] w fun e w' => e = .returned (.int .i64 (k0 + y1.length + z1.length)) ∧ Below w.heap.size w w' := by
  have hn : ¬ k0 + (y1.length : Int) < 0 := by omega
  have hn2 : ¬ k0 + (y1.length : Int) + (z1.length : Int) < 0 := by omega
  go_enter Tryd.func40, Tryd.ntmps40
  go_wp2_with (first
    | (go_at_call 69; ((with_reducible refine (heldIntS_any y1.length A1 c1 k0 _ (r1.alloc _) h0 (by omega)).mono ?_); rintro e w' ⟨rfl, rfl⟩))
    | (go_at_call 69; ((with_reducible refine (heldIntS_any z1.length B1 d1 (k0 + y1.length) _ (r2.alloc _) (by omega) (by omega)).mono ?_); rintro e w' ⟨rfl, rfl⟩)))
  go_ret
  exact ⟨rfl, (Below.refl _ _).alloc (Nat.le_refl _) _⟩
end Go.Proofs.YtaoobcjannbnjaaDoor
