/-
  Contracts of the statements' own marks on arguments that are logs. The conditions are bounds on lengths.
-/
import Derived.Test.YteajjbfecpffeaaMarkE
namespace Go.Proofs.Yteajjbfecpffeaa
open Go.RowKit Go.ChangeShapes Go.WideShapes
set_option linter.unusedVariables false
set_option linter.unusedSimpArgs false

theorem markEntryS_z (es : List Ent) (A : Option Addr) (c : Nat) (k0 : Int) {lo hi : Nat} (w : World) (hown : OwnE w lo hi (.slice A es.length c) es) (h0 : 0 ≤ k0) (h1 : k0 + 3 * (eszL es : Int) ≤ 1000000000000) :
    Calls Try.prog 11 #[.slice A es.length c, .int .i64 k0] w fun e w' => ∃ r, e = .returned (.int .i64 r) ∧ k0 ≤ r ∧ r ≤ k0 + 3 * (eszL es : Int) ∧ Fr lo hi w w' ∧ w'.heap.size = w.heap.size := by
  have hs := mkSum_le es es.length (Nat.le_refl _)
  exact (markEntryS_any es A c k0 w hown h0 (by omega)).mono fun e w' ⟨he, _, hf, hz⟩ => ⟨_, he, by omega, by omega, hf, hz⟩
theorem markEntryS_r (es : List Ent) (A : Option Addr) (c : Nat) (k0 : Int) {lo hi : Nat} (w : World) (hown : OwnE w lo hi (.slice A es.length c) es) (h0 : 0 ≤ k0) (h1 : k0 + 3 * (eszL es : Int) ≤ 1000000000000) :
    Calls Try.prog 11 #[.slice A es.length c, .int .i64 k0] w fun e w' => ∃ r, e = .returned (.int .i64 r) ∧ k0 ≤ r ∧ r ≤ k0 + 3 * (eszL es : Int) ∧ Fr lo hi w w' :=
  (markEntryS_z es A c k0 w hown h0 h1).mono fun e w' ⟨r, he, h1, h2, hf, hz⟩ => ⟨r, he, h1, h2, hf⟩

end Go.Proofs.Yteajjbfecpffeaa
