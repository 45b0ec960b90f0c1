/-
  Contracts and plain laws that the walk uses, several texts in one. The conditions are named ahead of each.
-/
import Derived.Test.YtjhbffndiaggmaaGreatDoorBSS2
import Derived.Test.YtjhbffndiaggmaaGreatDoorBSS1
import Derived.BigQuiet
import Derived.Deep.QuietTactic

/-
  Contracts of the statements' own helpers on slices of integers: size, copy, equality, marks. The conditions are bounds on the lengths.
-/
namespace Go.Proofs.YtjhbffndiaggmaaGreatDoor
open Go.RowKit Go.ChangeShapes Go.WideShapes
set_option linter.unusedVariables false

def szL (n : Nat) (left : Int) : Int := if left - (n : Int) < 0 then -1 else left - (n : Int)


end Go.Proofs.YtjhbffndiaggmaaGreatDoor

/-
  Equality of slices of integers, in the reference and in Go's library. The conditions are bounds on lengths.
-/
namespace Go.Proofs.YtjhbffndiaggmaaGreatDoor
open Go.RowKit Go.ChangeShapes Go.WideShapes
set_option linter.unusedVariables false

set_option maxHeartbeats 400000 in
theorem l1Same_any (xs ys : List Int) (A A' : Option Addr) (c c' : Nat) {l h l' h' : Nat} (w : World) (hx : Rd w l h A xs) (hy : Rd w l' h' A' ys) (hl : xs.length ≤ 9223372036854775807) (hl' : ys.length ≤ 9223372036854775807) :
    Calls Tryz.prog 118 #[.slice A xs.length c, .slice A' ys.length c'] w fun e w' => e = .returned (.bool (eqL xs ys)) ∧ ∃ n, w.drewN n = w' := by
  by_cases hne : xs.length = ys.length
  · go_enter Tryz.func118, Tryz.ntmps118
    have hn : ((xs.length : Int) != (ys.length : Int)) = false := by simp [hne]
    have hneH := Lib.hid hne
    have hle : xs.length ≤ ys.length := by omega
    clear hne
    go_wp2
    go_loopw [5, 13] (fun _ i wr => ∃ k : Nat, k ≤ xs.length ∧ i = .int .i64 k ∧ (∀ j (h1 : j < xs.length) (h2 : j < ys.length), j < k → xs[j] = ys[j]) ∧ ∃ n, w.drewN n = wr) (fun _ i _ => xs.length - (intOf i).toNat)
    case atStart => exact ⟨0, Nat.zero_le _, rfl, fun j _ _ h => absurd h (by omega), 0, rfl⟩
    case round =>
      obtain ⟨k, hk, rfl, hall, n, rfl⟩ := hrel
      have hallH := Lib.hid hall
      clear hall
      by_cases hlt : k < xs.length
      · obtain ⟨b, off, rfl, _, _, hc⟩ := hx (by omega)
        obtain ⟨b', off', rfl, _, _, hc'⟩ := hy (by omega)
        have hlt' : k < ys.length := by omega
        have hck := hc k hlt
        have hck' := hc' k hlt'
        clear hc hc'
        by_cases heq : xs[k] = ys[k]
        · have ht : (xs[k] != ys[k]) = false := by simp [heq]
          have hq := Lib.hid heq
          clear heq
          go_wp2
          go_quiet (fail)
          go_wp2
          go_roundw
          case rel => exact ⟨k + 1, by omega, by go_num, fun j h1 h2 h3 => by
            by_cases hj : j = k
            · subst hj; exact hq.out
            · exact hallH.out j h1 h2 (by omega), _, by first | rfl | exact (World.drewN_drewN _ _ _).symm⟩
          case measure => simp [intOf]; omega
        · have ht : (xs[k] != ys[k]) = true := by simp [heq]
          have hq := Lib.hid (eqL_at hlt hlt' heq)
          clear heq
          go_wp2
          go_quiet (fail)
          go_wp2
          go_ret
          exact ⟨by rw [hq.out]; rfl, _, by first | rfl | exact (World.drewN_drewN _ _ _).symm⟩
      · have hq := Lib.hid (eqL_take hneH.out fun j h1 h2 => hallH.out j h1 h2 (by omega))
        go_wp2
        go_ret
        exact ⟨by rw [hq.out]; rfl, _, rfl⟩
  · have hq := Lib.hid (eqL_len hne)
    have hn : ((xs.length : Int) != (ys.length : Int)) = true := by simp; omega
    clear hne
    go_enter Tryz.func118, Tryz.ntmps118
    go_wp2
    go_ret
    exact ⟨by rw [hq.out]; rfl, 0, rfl⟩
theorem l1Same_v (xs ys : List Int) (A A' : Option Addr) (c c' : Nat) {l h l' h' : Nat} (w : World) (hx : Rd w l h A xs) (hy : Rd w l' h' A' ys) (hl : xs.length ≤ 9223372036854775807) (hl' : ys.length ≤ 9223372036854775807) (v : Bool) (hv : eqL xs ys = v) :
    Calls Tryz.prog 118 #[.slice A xs.length c, .slice A' ys.length c'] w fun e w' => e = .returned (.bool v) ∧ Below w.heap.size w w' :=
  (l1Same_any xs ys A A' c c' w hx hy hl hl').mono fun e w' ⟨he, n, hw⟩ => ⟨hv ▸ he, hw ▸ below_refl_drewN n⟩

set_option maxHeartbeats 400000 in
theorem slEqual_any (xs ys : List Int) (A A' : Option Addr) (c c' : Nat) {l h l' h' : Nat} (w : World) (hx : Rd w l h A xs) (hy : Rd w l' h' A' ys) (hl : xs.length ≤ 9223372036854775807) (hl' : ys.length ≤ 9223372036854775807) :
    Calls Tryz.prog 116 #[.slice A xs.length c, .slice A' ys.length c'] w fun e w' => e = .returned (.bool (eqL xs ys)) ∧ ∃ n, w.drewN n = w' := by
  by_cases hne : xs.length = ys.length
  · go_enter Tryz.func116, Tryz.ntmps116
    have hn : ((xs.length : Int) != (ys.length : Int)) = false := by simp [hne]
    have hneH := Lib.hid hne
    have hle : xs.length ≤ ys.length := by omega
    clear hne
    go_wp2
    go_loopw [5, 13] (fun _ i wr => ∃ k : Nat, k ≤ xs.length ∧ i = .int .i64 k ∧ (∀ j (h1 : j < xs.length) (h2 : j < ys.length), j < k → xs[j] = ys[j]) ∧ ∃ n, w.drewN n = wr) (fun _ i _ => xs.length - (intOf i).toNat)
    case atStart => exact ⟨0, Nat.zero_le _, rfl, fun j _ _ h => absurd h (by omega), 0, rfl⟩
    case round =>
      obtain ⟨k, hk, rfl, hall, n, rfl⟩ := hrel
      have hallH := Lib.hid hall
      clear hall
      by_cases hlt : k < xs.length
      · obtain ⟨b, off, rfl, _, _, hc⟩ := hx (by omega)
        obtain ⟨b', off', rfl, _, _, hc'⟩ := hy (by omega)
        have hlt' : k < ys.length := by omega
        have hck := hc k hlt
        have hck' := hc' k hlt'
        clear hc hc'
        by_cases heq : xs[k] = ys[k]
        · have ht : (xs[k] != ys[k]) = false := by simp [heq]
          have hq := Lib.hid heq
          clear heq
          go_wp2
          go_quiet (fail)
          go_wp2
          go_roundw
          case rel => exact ⟨k + 1, by omega, by go_num, fun j h1 h2 h3 => by
            by_cases hj : j = k
            · subst hj; exact hq.out
            · exact hallH.out j h1 h2 (by omega), _, by first | rfl | exact (World.drewN_drewN _ _ _).symm⟩
          case measure => simp [intOf]; omega
        · have ht : (xs[k] != ys[k]) = true := by simp [heq]
          have hq := Lib.hid (eqL_at hlt hlt' heq)
          clear heq
          go_wp2
          go_quiet (fail)
          go_wp2
          go_ret
          exact ⟨by rw [hq.out]; rfl, _, by first | rfl | exact (World.drewN_drewN _ _ _).symm⟩
      · have hq := Lib.hid (eqL_take hneH.out fun j h1 h2 => hallH.out j h1 h2 (by omega))
        go_wp2
        go_ret
        exact ⟨by rw [hq.out]; rfl, _, rfl⟩
  · have hq := Lib.hid (eqL_len hne)
    have hn : ((xs.length : Int) != (ys.length : Int)) = true := by simp; omega
    clear hne
    go_enter Tryz.func116, Tryz.ntmps116
    go_wp2
    go_ret
    exact ⟨by rw [hq.out]; rfl, 0, rfl⟩
theorem slEqual_v (xs ys : List Int) (A A' : Option Addr) (c c' : Nat) {l h l' h' : Nat} (w : World) (hx : Rd w l h A xs) (hy : Rd w l' h' A' ys) (hl : xs.length ≤ 9223372036854775807) (hl' : ys.length ≤ 9223372036854775807) (v : Bool) (hv : eqL xs ys = v) :
    Calls Tryz.prog 116 #[.slice A xs.length c, .slice A' ys.length c'] w fun e w' => e = .returned (.bool v) ∧ Below w.heap.size w w' :=
  (slEqual_any xs ys A A' c c' w hx hy hl hl').mono fun e w' ⟨he, n, hw⟩ => ⟨hv ▸ he, hw ▸ below_refl_drewN n⟩
end Go.Proofs.YtjhbffndiaggmaaGreatDoor
