/-
  The reference's validity of a secret, as the statement calls it. The conditions are bounds on lengths, and that there is room for what is read.
-/
import Derived.Test.YtgglofcjifmbjaaSecret
namespace Go.Proofs.Ytgglofcjifmbjaa
open Go.RowKit Go.ChangeShapes Go.WideShapes
theorem sIsSecret_any (y1 : List Int) (A1 : Option Addr) (c1 : Nat) (z1 : List Int) (B1 : Option Addr) (d1 : Nat) {l h l' h' : Nat} (w : World) (hr1 : Rd w l h A1 y1) (hr2 : Rd w l' h' B1 z1) (hl1 : y1.length ≤ 1048576) (hl2 : z1.length ≤ 1048576) (hcap : y1.length ≤ c1) :
    Calls Try.prog 44 #[.agg #[.slice A1 y1.length c1, .slice B1 z1.length d1]] w fun e w' => e = .returned (.bool (scB y1 z1)) ∧ Below w.heap.size w w' := by
  go_enter Try.func44, Try.ntmps44
  go_wp2_with fail
  refine (scGood_any y1 A1 c1 z1 B1 d1 _ (hr1.alloc _) (hr2.alloc _) hl1 hl2 hcap).mono ?_
  rintro e w1 ⟨rfl, hb⟩
  go_wp2
  go_ret
  exact ⟨rfl, ((Below.refl w.heap.size w).alloc (Nat.le_refl _) _).trans (hb.mono (by simp))⟩
end Go.Proofs.Ytgglofcjifmbjaa
