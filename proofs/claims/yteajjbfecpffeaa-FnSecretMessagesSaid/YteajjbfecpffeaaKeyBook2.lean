/-
  Contracts on key books: pairs of them, the pages left, the pages used twice, the numbers of a page. The conditions are bounds on lengths.
-/
import Derived.Test.YteajjbfecpffeaaKeyBook
import Derived.Test.YteajjbfecpffeaaPageMix
import Derived.Deep.RegionHeld3
namespace Go.Proofs.Yteajjbfecpffeaa
open Go.RowKit Go.ChangeShapes Go.WideShapes
set_option linter.unusedVariables false

def plV (key pages : Int) (zs : List Int) : Int := if kbB key pages zs then pages - (zs.length : Int) else 0
def kpB (k1 p1 : Int) (z1 : List Int) (k2 p2 : Int) (z2 : List Int) : Bool := kbB k1 p1 z1 && (kbB k2 p2 z2 && (decide (k1 = k2) && decide (p1 = p2)))
theorem ret_zb {A : Option Addr} {n m c : Nat} {p q : Bool} (h : n = m) (h' : p = q) : Ending.returned (.tuple #[.slice A n c, .bool p]) = .returned (.tuple #[.slice A m c, .bool q]) := by rw [h, h']


set_option maxHeartbeats 400000 in
theorem iPagesLeft_any (key pages : Int) (zs : List Int) (A : Option Addr) (c : Nat) {l h : Nat} (w : World) (hr : Rd w l h A zs) (hl : zs.length ≤ 1048576) :
    Calls Try.prog 38 #[.agg #[.int .i64 key, .int .i64 pages, .slice A zs.length c]] w fun e w' => e = .returned (.tuple #[.int .i64 (plV key pages zs), .bool (kbB key pages zs)]) ∧ Below w.heap.size w w' := by
  cases hk : kbB key pages zs with
  | true =>
    have hp : 1 ≤ pages ∧ pages ≤ 60 := by
      simp only [kbB, Bool.and_eq_true] at hk
      exact inB_iff.1 hk.2.1
    have hv := Lib.hid (show plV key pages zs = pages - (zs.length : Int) by simp [plV, hk])
    go_enter Try.func38, Try.ntmps38
    go_wp2_with fail
    refine (iIsKeyBook_any key pages zs A c _ (hr.alloc _) (by omega)).mono ?_
    rintro e w1 ⟨rfl, hb1⟩
    have k1 := (Bk.new w _ _).st hb1
    have a1 := k1.cell 1
    have a2 := k1.cell 2
    simp at a1 a2
    have hb := ((Below.refl _ _).alloc (Nat.le_refl _) _).trans (hb1.mono (by simp))
    clear hb1 k1
    go_wp2
    go_ret2
    exact ⟨ret_ib hv.out.symm rfl, hb⟩
  | false =>
    have hv := Lib.hid (show plV key pages zs = 0 by simp [plV, hk])
    go_enter Try.func38, Try.ntmps38
    go_wp2_with (go_at_call 85; refine (iIsKeyBook_any key pages zs A c _ (hr.alloc _) (by omega)).mono ?_; rintro e w1 ⟨rfl, hb1⟩)
    go_ret2
    exact ⟨ret_ib hv.out.symm rfl, ((Below.refl _ _).alloc (Nat.le_refl _) _).trans (hb1.mono (by simp))⟩



/-- the pages used in both -/
def duTo (z1 z2 : List Int) (k : Nat) : List Int := (z1.take k).filter fun x => hasB z2 x
theorem duTo_yes {z1 z2 : List Int} {k : Nat} (h : k < z1.length) (h1 : hasB z2 z1[k] = true) : duTo z1 z2 (k + 1) = duTo z1 z2 k ++ [z1[k]] := by
  unfold duTo; rw [List.take_succ_eq_append_getElem h, List.filter_append]; simp [h1]
theorem duTo_no {z1 z2 : List Int} {k : Nat} (h : k < z1.length) (h1 : hasB z2 z1[k] = false) : duTo z1 z2 (k + 1) = duTo z1 z2 k := by
  unfold duTo; rw [List.take_succ_eq_append_getElem h, List.filter_append]; simp [h1]
theorem duTo_len (z1 z2 : List Int) (k : Nat) : (duTo z1 z2 k).length ≤ z1.length := by
  unfold duTo; exact Nat.le_trans (List.length_filter_le _ _) (by rw [List.length_take]; exact Nat.min_le_right _ _)
def duL (k1 p1 : Int) (z1 : List Int) (k2 p2 : Int) (z2 : List Int) : List Int := if kpB k1 p1 z1 k2 p2 z2 then duTo z1 z2 z1.length else []
theorem duL_len (k1 p1 : Int) (z1 : List Int) (k2 p2 : Int) (z2 : List Int) : (duL k1 p1 z1 k2 p2 z2).length ≤ z1.length := by
  unfold duL; split
  · exact duTo_len _ _ _
  · simp



end Go.Proofs.Yteajjbfecpffeaa
