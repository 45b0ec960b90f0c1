/-
  The statements' helper that marks a secret's memory, its two slices each in blocks of their own. The conditions are bounds on lengths.
-/
import Derived.Test.YtaoobcjannbnjaaDoorMarkS
namespace Go.Proofs.YtaoobcjannbnjaaDoor
open Go.RowKit Go.ChangeShapes Go.WideShapes
set_option linter.unusedVariables false
set_option linter.unusedSimpArgs false
set_option maxHeartbeats 1000000 in
theorem markSecret_p (y1 : List Int) (A1 : Option Addr) (c1 : Nat) (z1 : List Int) (B1 : Option Addr) (d1 : Nat) (k0 : Int) {lo hi lo2 hi2 : Nat} (w : World) (o1 : Own w lo hi (.slice A1 y1.length c1) y1) (o2 : Own w lo2 hi2 (.slice B1 z1.length d1) z1)
    (dj : hi ≤ lo2 ∨ hi2 ≤ lo) (h0 : 0 ≤ k0) (h1 : k0 + y1.length + z1.length ≤ 1000000000000) :
    Calls Tryd.prog 39 #[.agg #[.slice A1 y1.length c1, .slice B1 z1.length d1], .int .i64 k0] w fun e w' => e = .returned (.int .i64 (k0 + y1.length + z1.length)) ∧
      Own w' lo hi (.slice A1 y1.length c1) (fill k0 y1.length) ∧ Own w' lo2 hi2 (.slice B1 z1.length d1) (fill (k0 + y1.length) z1.length) ∧ ∃ wm, Fr lo hi w wm ∧ Fr lo2 hi2 wm w' := by
  obtain ⟨l1, r1, t1, u1⟩ := o1.tight
  have hx := out_of_tight o1 u1 (Nat.le_refl w.heap.size)
  go_enter Tryd.func39, Tryd.ntmps39
  go_wp2_with fail
  refine (markIntS_b y1 A1 c1 k0 _ (t1.alloc _) h0 (by omega)).mono ?_
  rintro e w1 ⟨rfl, p1, f1⟩
  have F1 := Lib.hid ((((Fr.refl l1 r1 w).alloc _).trans f1).widen fun b h1 h2 => (u1 b h1 h2).2)
  have q2 := o2.fr F1.out (by omega)
  have k1 := (Bk.new w _ _).fr f1 hx
  have b0 := k1.cell 0
  have b1 := k1.cell 1
  have hl := k1.lt
  simp at b0 b1
  have P1 := Lib.hid (p1.wide fun b h1 h2 => (u1 b h1 h2).2)
  have Q2 := Lib.hid q2
  clear p1 f1 q2 k1 hx
  go_wp2_with fail
  refine (markIntS_b z1 B1 d1 (k0 + y1.length) _ Q2.out (by omega) (by omega)).mono ?_
  rintro e w2 ⟨rfl, p2, f2⟩
  go_wp2
  go_ret
  exact ⟨rfl, P1.out.fr f2 (by omega), p2, w1, F1.out, f2⟩
end Go.Proofs.YtaoobcjannbnjaaDoor
