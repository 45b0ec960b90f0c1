/-
  The statements' helpers that mark a key book's memory and look whether the marks are held. The conditions are bounds on lengths.
-/
import Derived.Test.YtaoobcjannbnjaaDoorKeyBook
import Derived.Test.YtaoobcjannbnjaaDoorLawKit
namespace Go.Proofs.YtaoobcjannbnjaaDoor
open Go.RowKit Go.ChangeShapes Go.WideShapes
set_option linter.unusedVariables false
set_option linter.unusedSimpArgs false
set_option maxHeartbeats 400000 in
theorem markKeyBook_b (key pages : Int) (zs : List Int) (A : Option Addr) (c : Nat) (k0 : Int) {lo hi : Nat} (w : World) (hown : Own w lo hi (.slice A zs.length c) zs) (h0 : 0 ≤ k0) (h1 : k0 + zs.length ≤ 1000000000000) :
    Calls Tryd.prog 31 #[.agg #[.int .i64 key, .int .i64 pages, .slice A zs.length c], .int .i64 k0] w fun e w' => e = .returned (.int .i64 (k0 + zs.length)) ∧ Own w' lo hi (.slice A zs.length c) (fill k0 zs.length) ∧ Fr lo hi w w' := by
  go_enter Tryd.func31, Tryd.ntmps31
  go_wp2_with (go_at_call 68; refine (markIntS_any zs A c k0 _ (hown.alloc _) h0 h1).mono ?_; rintro e w1 ⟨rfl, ho, hf, hs⟩)
  go_ret
  exact ⟨rfl, ho, ((Fr.refl _ _ _).alloc _).trans hf⟩
set_option maxHeartbeats 400000 in
theorem heldKeyBook_b (key pages : Int) (zs : List Int) (A : Option Addr) (c : Nat) (k0 : Int) {lo hi : Nat} (w : World) (hr : Rd w lo hi A (fill k0 zs.length)) (h0 : 0 ≤ k0) (h1 : k0 + zs.length ≤ 1000000000000) :
    Calls Tryd.prog 32 #[.agg #[.int .i64 key, .int .i64 pages, .slice A zs.length c], .int .i64 k0] w fun e w' => e = .returned (.int .i64 (k0 + zs.length)) ∧ Below w.heap.size w w' := by
  go_enter Tryd.func32, Tryd.ntmps32
  go_wp2_with (go_at_call 69; (with_reducible refine (heldIntS_b zs A c k0 _ (hr.alloc _) h0 h1).mono ?_); rintro e w1 ⟨rfl, hb⟩)
  go_ret
  exact ⟨rfl, ((Below.refl _ _).alloc (Nat.le_refl _) _).trans (hb.mono (by simp))⟩
end Go.Proofs.YtaoobcjannbnjaaDoor
