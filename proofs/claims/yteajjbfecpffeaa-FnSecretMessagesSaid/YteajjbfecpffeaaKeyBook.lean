/-
  Contracts on key books: the statements' helpers (size, copy, equality, marks), and validity in the program and the reference. The conditions are bounds on a slice's length.
-/
import Derived.Test.YteajjbfecpffeaaIntLow
import Derived.Test.YteajjbfecpffeaaInts
namespace Go.Proofs.Yteajjbfecpffeaa
open Go.RowKit Go.ChangeShapes Go.WideShapes
set_option linter.unusedVariables false

/-- a key book's value: key, pages, and the slice of used ones -/
def kbv (key pages : Int) (A : Option Addr) (n c : Nat) : Value := .agg #[.int .i64 key, .int .i64 pages, .slice A n c]

def eqKb (k1 p1 : Int) (z1 : List Int) (k2 p2 : Int) (z2 : List Int) : Bool := decide (k1 = k2) && (decide (p1 = p2) && eqL z1 z2)
theorem eqKb_self (k p : Int) (z : List Int) : eqKb k p z k p z = true := by simp [eqKb, eqL]

set_option maxHeartbeats 1000000 in
theorem kyGood_any (key pages : Int) (zs : List Int) (A : Option Addr) (c : Nat) {l h : Nat} (w : World) (hr : Rd w l h A zs) (hl : zs.length ≤ 9223372036854775806) :
    Calls Try.prog 112 #[.agg #[.int .i64 key, .int .i64 pages, .slice A zs.length c]] w fun e w' => e = .returned (.bool (kbB key pages zs)) ∧ Below w.heap.size w w' := by
  have hbel : ∀ o : Obj, Below w.heap.size w (w.alloc o) := fun o => (Below.refl _ _).alloc (Nat.le_refl _) _
  cases h1 : inB key 0 1000000000 with
  | true =>
    have q1 := Lib.hid h1
    cases h2 : inB pages 1 60 with
    | true =>
      have q2 := Lib.hid h2
      have hp := inB_iff.1 h2
      go_enter Try.func112, Try.ntmps112
      go_wp2_with (first
        | (go_at_call 104; refine (l1In_any _ _ _ _).mono ?_; rintro e w' ⟨rfl, rfl⟩)
        | (go_at_call 133; refine (l1Rising_any zs A c _ _ _ (hr.alloc _) hl).mono ?_; rintro e w' ⟨rfl, rfl⟩))
      go_ret
      exact ⟨by simp [kbB, q1.out, q2.out], hbel _⟩
    | false =>
      have q2 := Lib.hid h2
      go_enter Try.func112, Try.ntmps112
      go_wp2_with (first
        | (go_at_call 104; refine (l1In_any _ _ _ _).mono ?_; rintro e w' ⟨rfl, rfl⟩))
      go_ret
      exact ⟨by simp [kbB, q1.out, q2.out], hbel _⟩
  | false =>
    have q1 := Lib.hid h1
    go_enter Try.func112, Try.ntmps112
    go_wp2_with (first
      | (go_at_call 104; refine (l1In_any _ _ _ _).mono ?_; rintro e w' ⟨rfl, rfl⟩))
    go_ret
    exact ⟨by simp [kbB, q1.out], hbel _⟩
set_option maxHeartbeats 1000000 in
theorem iIsKeyBook_any (key pages : Int) (zs : List Int) (A : Option Addr) (c : Nat) {l h : Nat} (w : World) (hr : Rd w l h A zs) (hl : zs.length ≤ 9223372036854775806) :
    Calls Try.prog 85 #[.agg #[.int .i64 key, .int .i64 pages, .slice A zs.length c]] w fun e w' => e = .returned (.bool (kbB key pages zs)) ∧ Below w.heap.size w w' := by
  have hbel : ∀ o : Obj, Below w.heap.size w (w.alloc o) := fun o => (Below.refl _ _).alloc (Nat.le_refl _) _
  cases h1 : inB key 0 1000000000 with
  | true =>
    have q1 := Lib.hid h1
    cases h2 : inB pages 1 60 with
    | true =>
      have q2 := Lib.hid h2
      have hp := inB_iff.1 h2
      cases h3 : allB zs 0 (pages - 1) with
      | true =>
        have q3 := Lib.hid h3
        go_enter Try.func85, Try.ntmps85
        go_wp2_with (first
          | (go_at_call 86; refine (within_any _ _ _ _).mono ?_; rintro e w' ⟨rfl, rfl⟩)
          | (go_at_call 71; refine (allWithin_any zs A c _ _ _ (hr.alloc _) (by omega)).mono ?_; rintro e w' ⟨rfl, rfl⟩)
          | (go_at_call 89; refine (increasing_any zs A c _ (hr.alloc _) hl).mono ?_; rintro e w' ⟨rfl, n, rfl⟩))
        go_ret
        exact ⟨by simp [kbB, risinB, q1.out, q2.out, q3.out], below_drewN (hbel _) _⟩
      | false =>
        have q3 := Lib.hid h3
        go_enter Try.func85, Try.ntmps85
        go_wp2_with (first
          | (go_at_call 86; refine (within_any _ _ _ _).mono ?_; rintro e w' ⟨rfl, rfl⟩)
          | (go_at_call 71; refine (allWithin_any zs A c _ _ _ (hr.alloc _) (by omega)).mono ?_; rintro e w' ⟨rfl, rfl⟩))
        go_ret
        exact ⟨by simp [kbB, risinB, q1.out, q2.out, q3.out], hbel _⟩
    | false =>
      have q2 := Lib.hid h2
      go_enter Try.func85, Try.ntmps85
      go_wp2_with (first
        | (go_at_call 86; refine (within_any _ _ _ _).mono ?_; rintro e w' ⟨rfl, rfl⟩))
      go_ret
      exact ⟨by simp [kbB, q1.out, q2.out], hbel _⟩
  | false =>
    have q1 := Lib.hid h1
    go_enter Try.func85, Try.ntmps85
    go_wp2_with (first
      | (go_at_call 86; refine (within_any _ _ _ _).mono ?_; rintro e w' ⟨rfl, rfl⟩))
    go_ret
    exact ⟨by simp [kbB, q1.out], hbel _⟩

end Go.Proofs.Yteajjbfecpffeaa
