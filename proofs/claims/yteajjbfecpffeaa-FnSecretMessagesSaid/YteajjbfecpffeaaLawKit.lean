/-
  The statements' helpers in the form in which the walks through the laws call them: each ends in 'what was there is as it was'. No conditions beyond bounds on lengths.
-/
import Derived.Test.YteajjbfecpffeaaInts
import Derived.Test.YteajjbfecpffeaaEntry
import Derived.Test.YteajjbfecpffeaaLog
import Derived.Deep.RegionHeld3
namespace Go.Proofs.Yteajjbfecpffeaa
open Go.RowKit Go.ChangeShapes Go.WideShapes
set_option linter.unusedVariables false

theorem cell_realloc {w : World} {o o' : Obj} {p : Addr} {v : Value} (hlt : p.block < w.heap.size) (h : (w.alloc o).cell? p = some v) : (w.alloc o').cell? p = some v := by
  rw [World.cell?_alloc_lt w _ _ hlt] at h ⊢; exact h
theorem szIntS_yes (zs : List Int) (A : Option Addr) (c : Nat) (left : Int) (w : World) (h : (zs.length : Int) ≤ left) (hl : zs.length ≤ 9223372036854775807) (h1 : left ≤ 1048576) :
    Calls Try.prog 90 #[.slice A zs.length c, .int .i64 left] w fun e w' => e = .returned (.int .i64 (left - (zs.length : Int))) ∧ Below w.heap.size w w' :=
  (szIntS_any zs A c left w (by omega) (by omega) h1).mono fun e w' ⟨he, hw⟩ => ⟨by rw [he]; simp only [szL]; rw [if_neg (by omega)], hw ▸ Below.refl _ _⟩
theorem szIntS_no (zs : List Int) (A : Option Addr) (c : Nat) (left : Int) (w : World) (h : left < (zs.length : Int)) (hl : zs.length ≤ 9223372036854775807) (h1 : 0 ≤ left ∧ left ≤ 1048576) :
    Calls Try.prog 90 #[.slice A zs.length c, .int .i64 left] w fun e w' => e = .returned (.int .i64 (-1)) ∧ Below w.heap.size w w' :=
  (szIntS_any zs A c left w (by omega) h1.1 h1.2).mono fun e w' ⟨he, hw⟩ => ⟨by rw [he]; simp only [szL]; rw [if_pos (by omega)], hw ▸ Below.refl _ _⟩
theorem eqIntS_b (xs : List Int) (A : Option Addr) (c : Nat) (ys : List Int) (A' : Option Addr) (c' : Nat) {l h l' h' : Nat} (w : World) (hx : Rd w l h A xs) (hy : Rd w l' h' A' ys) (hl : xs.length ≤ 9223372036854775806) (hl' : ys.length ≤ 9223372036854775806) :
    Calls Try.prog 97 #[.slice A xs.length c, .slice A' ys.length c'] w fun e w' => e = .returned (.bool (eqL xs ys)) ∧ Below w.heap.size w w' :=
  (eqIntS_any xs ys A A' c c' w hx hy (by omega) (by omega)).mono fun e w' ⟨he, n, hw⟩ => ⟨he, hw ▸ below_refl_drewN n⟩
theorem toIntS_b (zs : List Int) (A : Option Addr) (c : Nat) {l h : Nat} (w : World) (hr0 : Rd w l h A zs) (hl : zs.length ≤ 1048576) :
    Calls Try.prog 93 #[.slice A zs.length c] w fun e w' => ∃ A' c', e = .returned (.slice A' zs.length c') ∧ Own w' w.heap.size w'.heap.size (.slice A' zs.length c') zs ∧ Below w.heap.size w w' :=
  (toIntS_any zs A c w hr0 (by omega)).mono fun e w' ⟨v, he, ho, hb⟩ => by
    obtain ⟨A', c', rfl, _, _⟩ := ho.rd
    exact ⟨A', c', he, ho, hb⟩
theorem markIntS_b (zs : List Int) (A : Option Addr) (c : Nat) (k0 : Int) {lo hi : Nat} (w : World) (hown : Own w lo hi (.slice A zs.length c) zs) (h0 : 0 ≤ k0) (h1 : k0 + zs.length ≤ 1000000000000) :
    Calls Try.prog 53 #[.slice A zs.length c, .int .i64 k0] w fun e w' => e = .returned (.int .i64 (k0 + zs.length)) ∧ Own w' lo hi (.slice A zs.length c) (fill k0 zs.length) ∧ Fr lo hi w w' :=
  (markIntS_any zs A c k0 w hown h0 h1).mono fun e w' ⟨he, ho, hf, _⟩ => ⟨he, ho, hf⟩
theorem heldIntS_b (zs : List Int) (A : Option Addr) (c : Nat) (k0 : Int) {lo hi : Nat} (w : World) (hr : Rd w lo hi A (fill k0 zs.length)) (h0 : 0 ≤ k0) (h1 : k0 + zs.length ≤ 1000000000000) :
    Calls Try.prog 54 #[.slice A zs.length c, .int .i64 k0] w fun e w' => e = .returned (.int .i64 (k0 + zs.length)) ∧ Below w.heap.size w w' :=
  (heldIntS_any zs.length A c k0 w hr h0 h1).mono fun e w' ⟨he, hw⟩ => ⟨he, hw ▸ Below.refl _ _⟩

end Go.Proofs.Yteajjbfecpffeaa
