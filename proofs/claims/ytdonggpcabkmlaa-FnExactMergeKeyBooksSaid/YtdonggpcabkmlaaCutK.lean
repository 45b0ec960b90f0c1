/-
  Words on three stores at the head of a block, for the walks through the laws. No conditions.
-/
import Derived.Test.YtdonggpcabkmlaaLawKit
import Derived.Deep.Cut
namespace Go.Proofs.Ytdonggpcabkmlaa
open Go.RowKit
set_option linter.unusedVariables false

/-- three stores at the head of block g -/
def put3 (w : World) (g : Nat) (a b c : Value) : World := ((w.setCell ⟨g, 0, none⟩ a).setCell ⟨g, 1, none⟩ b).setCell ⟨g, 2, none⟩ c
section
variable {w w' : World} {g B lo hi k o : Nat} {x y z v : Value} {t : TypeId} {cs : Array Value} {A : Option Addr} {zs : List Int}
theorem cellF3 (hne : k ≠ g) (h : w.cell? ⟨k, o, none⟩ = some v) : (((w.setCell ⟨g, 0, none⟩ x).setCell ⟨g, 1, none⟩ y).setCell ⟨g, 2, none⟩ z).cell? ⟨k, o, none⟩ = some v := by
  rw [World.cell?_setCell_other _ _ _ _ (fun e => hne (congrArg Addr.block e).symm), World.cell?_setCell_other _ _ _ _ (fun e => hne (congrArg Addr.block e).symm), World.cell?_setCell_other _ _ _ _ (fun e => hne (congrArg Addr.block e).symm), h]
theorem bkF3 {a b c : Value} (h : Bk w g t #[a, b, c]) : Bk (((w.setCell ⟨g, 0, none⟩ x).setCell ⟨g, 1, none⟩ y).setCell ⟨g, 2, none⟩ z) g t #[x, y, z] := by
  simpa using ((h.set_ 0 x).set_ 1 y).set_ 2 z
theorem ownF3 {u : Value} (h : Own w lo hi u zs) (h1 : g < lo ∨ hi ≤ g) : Own (((w.setCell ⟨g, 0, none⟩ x).setCell ⟨g, 1, none⟩ y).setCell ⟨g, 2, none⟩ z) lo hi u zs :=
  ((h.setCell (p := ⟨g, 0, none⟩) h1 x).setCell (p := ⟨g, 1, none⟩) h1 y).setCell (p := ⟨g, 2, none⟩) h1 z
theorem rdF3 (h : Rd w lo hi A zs) (h1 : g < lo ∨ hi ≤ g) : Rd (((w.setCell ⟨g, 0, none⟩ x).setCell ⟨g, 1, none⟩ y).setCell ⟨g, 2, none⟩ z) lo hi A zs :=
  h.keep fun b o q1 q2 _ => by
    have hne : g ≠ b := by omega
    rw [World.cell?_setCell_other _ _ _ _ (fun e => hne (congrArg Addr.block e)), World.cell?_setCell_other _ _ _ _ (fun e => hne (congrArg Addr.block e)), World.cell?_setCell_other _ _ _ _ (fun e => hne (congrArg Addr.block e))]
theorem belF3 (h : Below B w w') (h1 : B ≤ g) : Below B w (((w'.setCell ⟨g, 0, none⟩ x).setCell ⟨g, 1, none⟩ y).setCell ⟨g, 2, none⟩ z) :=
  ((h.setCell (p := ⟨g, 0, none⟩) h1 x).setCell (p := ⟨g, 1, none⟩) h1 y).setCell (p := ⟨g, 2, none⟩) h1 z
theorem sizeF3 : (((w.setCell ⟨g, 0, none⟩ x).setCell ⟨g, 1, none⟩ y).setCell ⟨g, 2, none⟩ z).heap.size = w.heap.size := by simp only [size_setCell]
end
end Go.Proofs.Ytdonggpcabkmlaa
