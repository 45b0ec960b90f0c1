/-
  Contracts on key books: pairs of them, the pages left, the pages used twice, the numbers of a page. The conditions are bounds on lengths.
-/
import Derived.Test.YtlpoknplonmfmaaKeyBook
import Derived.Test.YtlpoknplonmfmaaPageMix
import Derived.Deep.RegionHeld3
namespace Go.Proofs.Ytlpoknplonmfmaa
open Go.RowKit Go.ChangeShapes Go.WideShapes
set_option linter.unusedVariables false

def plV (key pages : Int) (zs : List Int) : Int := if kbB key pages zs then pages - (zs.length : Int) else 0
def kpB (k1 p1 : Int) (z1 : List Int) (k2 p2 : Int) (z2 : List Int) : Bool := kbB k1 p1 z1 && (kbB k2 p2 z2 && (decide (k1 = k2) && decide (p1 = p2)))
theorem ret_zb {A : Option Addr} {n m c : Nat} {p q : Bool} (h : n = m) (h' : p = q) : Ending.returned (.tuple #[.slice A n c, .bool p]) = .returned (.tuple #[.slice A m c, .bool q]) := by rw [h, h']





/-- the pages used in both -/
def duTo (z1 z2 : List Int) (k : Nat) : List Int := (z1.take k).filter fun x => hasB z2 x
theorem duTo_yes {z1 z2 : List Int} {k : Nat} (h : k < z1.length) (h1 : hasB z2 z1[k] = true) : duTo z1 z2 (k + 1) = duTo z1 z2 k ++ [z1[k]] := by
  unfold duTo; rw [List.take_succ_eq_append_getElem h, List.filter_append]; simp [h1]
theorem duTo_no {z1 z2 : List Int} {k : Nat} (h : k < z1.length) (h1 : hasB z2 z1[k] = false) : duTo z1 z2 (k + 1) = duTo z1 z2 k := by
  unfold duTo; rw [List.take_succ_eq_append_getElem h, List.filter_append]; simp [h1]
theorem duTo_len (z1 z2 : List Int) (k : Nat) : (duTo z1 z2 k).length ≤ z1.length := by
  unfold duTo; exact Nat.le_trans (List.length_filter_le _ _) (by rw [List.length_take]; exact Nat.min_le_right _ _)
def duL (k1 p1 : Int) (z1 : List Int) (k2 p2 : Int) (z2 : List Int) : List Int := if kpB k1 p1 z1 k2 p2 z2 then duTo z1 z2 z1.length else []
theorem duL_len (k1 p1 : Int) (z1 : List Int) (k2 p2 : Int) (z2 : List Int) : (duL k1 p1 z1 k2 p2 z2).length ≤ z1.length := by
  unfold duL; split
  · exact duTo_len _ _ _
  · simp



set_option maxHeartbeats 400000 in
theorem markKeyBook_b (key pages : Int) (zs : List Int) (A : Option Addr) (c : Nat) (k0 : Int) {lo hi : Nat} (w : World) (hown : Own w lo hi (.slice A zs.length c) zs) (h0 : 0 ≤ k0) (h1 : k0 + zs.length ≤ 1000000000000) :
    Calls Try.prog 22 #[.agg #[.int .i64 key, .int .i64 pages, .slice A zs.length c], .int .i64 k0] w fun e w' => e = .returned (.int .i64 (k0 + zs.length)) ∧ Own w' lo hi (.slice A zs.length c) (fill k0 zs.length) ∧ Fr lo hi w w' := by
  go_enter Try.func22, Try.ntmps22
  go_wp2_with (go_at_call 23; refine (markIntS_any zs A c k0 _ (hown.alloc _) h0 h1).mono ?_; rintro e w1 ⟨rfl, ho, hf, hs⟩)
  go_ret
  exact ⟨rfl, ho, ((Fr.refl _ _ _).alloc _).trans hf⟩
end Go.Proofs.Ytlpoknplonmfmaa
