/-
  Contracts of PageMix, of the program and of the reference. No conditions but the bound on a slice's length.
-/
import Derived.Test.YtbagliaelolhcaaIntLow
namespace Go.Proofs.Ytbagliaelolhcaa
open Go.RowKit Go.ChangeShapes Go.WideShapes
set_option linter.unusedVariables false

def pmB (zs : List Int) : Bool := decide (zs.length ≤ 5) && allB zs 0 1000000000
def pmV (zs : List Int) : Int := if pmB zs then mixL zs else 0
theorem pmB_t {zs : List Int} (h : zs.length ≤ 5) (h1 : allB zs 0 1000000000 = true) : pmB zs = true ∧ pmV zs = mixL zs := by
  have : pmB zs = true := by simp [pmB, h, h1]
  exact ⟨this, by simp [pmV, this]⟩
theorem pmB_f {zs : List Int} (h : ¬ (zs.length ≤ 5 ∧ allB zs 0 1000000000 = true)) : pmB zs = false ∧ pmV zs = 0 := by
  have : pmB zs = false := by cases hb : pmB zs with | false => rfl | true => simp [pmB] at hb; exact absurd hb h
  exact ⟨this, by simp [pmV, this]⟩

theorem ret_ib {a b : Int} {p q : Bool} (h : a = b) (h' : p = q) : Ending.returned (.tuple #[.int .i64 a, .bool p]) = .returned (.tuple #[.int .i64 b, .bool q]) := by rw [h, h']

set_option maxHeartbeats 400000 in
theorem sPageMix_any (zs : List Int) (A : Option Addr) (c : Nat) {l h : Nat} (w : World) (hr : Rd w l h A zs) (hl : zs.length ≤ 9223372036854775807) :
    Calls Try.prog 63 #[.slice A zs.length c] w fun e w' => e = .returned (.tuple #[.int .i64 (pmV zs), .bool (pmB zs)]) ∧ Below w.heap.size w w' := by
  by_cases h5 : zs.length ≤ 5
  · cases ha : allB zs 0 1000000000 with
    | true =>
      have hp := Lib.hid (pmB_t h5 ha)
      have ha2 := Lib.hid ha
      go_enter Try.func63, Try.ntmps63
      go_wp2_with (first
        | (go_at_call 134; refine (l1All_any zs A c _ _ _ hr hl).mono ?_; rintro e w' ⟨rfl, rfl⟩)
        | (go_at_call 135; refine (kyMix_any zs A c _ hr (by omega) ha2.out).mono ?_; rintro e w' ⟨rfl, hb⟩))
      go_ret2
      exact ⟨ret_ib hp.out.2.symm hp.out.1.symm, hb⟩
    | false =>
      have hp := Lib.hid (pmB_f (zs := zs) (by rw [ha]; simp))
      go_enter Try.func63, Try.ntmps63
      go_wp2_with (first
        | (go_at_call 134; refine (l1All_any zs A c _ _ _ hr hl).mono ?_; rintro e w' ⟨rfl, rfl⟩))
      go_ret2
      exact ⟨ret_ib hp.out.2.symm hp.out.1.symm, Below.refl _ _⟩
  · have hp := Lib.hid (pmB_f (zs := zs) (fun h => h5 h.1))
    go_enter Try.func63, Try.ntmps63
    go_wp2
    go_ret2
    exact ⟨ret_ib hp.out.2.symm hp.out.1.symm, Below.refl _ _⟩

set_option maxHeartbeats 400000 in
theorem iPageMix_any (zs : List Int) (A : Option Addr) (c : Nat) {l h : Nat} (w : World) (hr : Rd w l h A zs) (hl : zs.length ≤ 9223372036854775807) :
    Calls Try.prog 62 #[.slice A zs.length c] w fun e w' => e = .returned (.tuple #[.int .i64 (pmV zs), .bool (pmB zs)]) ∧ Below w.heap.size w w' := by
  by_cases h5 : zs.length ≤ 5
  · cases ha : allB zs 0 1000000000 with
    | true =>
      have hp := Lib.hid (pmB_t h5 ha)
      have ha2 := Lib.hid ha
      go_enter Try.func62, Try.ntmps62
      go_wp2_with (first
        | (go_at_call 115; refine (allWithin_any zs A c _ _ _ hr hl).mono ?_; rintro e w' ⟨rfl, rfl⟩)
        | (go_at_call 133; refine (mixOf_any zs A c _ hr (by omega) ha2.out).mono ?_; rintro e w' ⟨rfl, hb⟩))
      go_ret2
      exact ⟨ret_ib hp.out.2.symm hp.out.1.symm, hb⟩
    | false =>
      have hp := Lib.hid (pmB_f (zs := zs) (by rw [ha]; simp))
      go_enter Try.func62, Try.ntmps62
      go_wp2_with (first
        | (go_at_call 115; refine (allWithin_any zs A c _ _ _ hr hl).mono ?_; rintro e w' ⟨rfl, rfl⟩))
      go_ret2
      exact ⟨ret_ib hp.out.2.symm hp.out.1.symm, Below.refl _ _⟩
  · have hp := Lib.hid (pmB_f (zs := zs) (fun h => h5 h.1))
    go_enter Try.func62, Try.ntmps62
    go_wp2
    go_ret2
    exact ⟨ret_ib hp.out.2.symm hp.out.1.symm, Below.refl _ _⟩

end Go.Proofs.Ytbagliaelolhcaa
