/-
  Contracts and plain laws that the walk uses, several texts in one. The conditions are named ahead of each.
-/
import Derived.Test.YtjhbffndiaggmaaDoorB1
import Derived.Test.YtjhbffndiaggmaaDoorPure
import Derived.BigQuiet
import Derived.Deep.QuietTactic
import Derived.WalkSpells

/-
  Contracts of small functions of the program, the reference and the package slices on slices of integers. The conditions are bounds on the lengths and numbers.
-/
namespace Go.Proofs.YtjhbffndiaggmaaDoor
open Go.RowKit Go.ChangeShapes Go.WideShapes
set_option linter.unusedVariables false

theorem within_any (n lo hi : Int) (w : World) :
    Calls Tryd.prog 39 #[.int .i64 n, .int .i64 lo, .int .i64 hi] w fun e w' => e = .returned (.bool (inB n lo hi)) ∧ w = w' := by
  by_cases h1 : lo ≤ n
  · by_cases h2 : n ≤ hi
    · go_enter Tryd.func39, Tryd.ntmps39
      go_wp2
      go_ret
      exact ⟨by simp [inB, h1, h2], rfl⟩
    · go_enter Tryd.func39, Tryd.ntmps39
      go_wp2
      go_ret
      exact ⟨by simp [inB, h1, h2], rfl⟩
  · go_enter Tryd.func39, Tryd.ntmps39
    go_wp2
    go_ret
    exact ⟨by simp [inB]; omega, rfl⟩

theorem l1In_any (n lo hi : Int) (w : World) :
    Calls Tryd.prog 41 #[.int .i64 n, .int .i64 lo, .int .i64 hi] w fun e w' => e = .returned (.bool (inB n lo hi)) ∧ w = w' := by
  by_cases h1 : lo ≤ n
  · by_cases h2 : n ≤ hi
    · go_enter Tryd.func41, Tryd.ntmps41
      go_wp2
      go_ret
      exact ⟨by simp [inB, h1, h2], rfl⟩
    · go_enter Tryd.func41, Tryd.ntmps41
      go_wp2
      go_ret
      exact ⟨by simp [inB, h1, h2], rfl⟩
  · go_enter Tryd.func41, Tryd.ntmps41
    go_wp2
    go_ret
    exact ⟨by simp [inB]; omega, rfl⟩

set_option maxHeartbeats 400000 in
theorem allWithin_any (zs : List Int) (A : Option Addr) (c : Nat) {l h : Nat} (lo hi : Int) (w : World) (hr : Rd w l h A zs) (hl : zs.length ≤ 9223372036854775807) :
    Calls Tryd.prog 64 #[.slice A zs.length c, .int .i64 lo, .int .i64 hi] w fun e w' => e = .returned (.bool (allB zs lo hi)) ∧ w = w' := by
  go_enter Tryd.func64, Tryd.ntmps64
  go_wp2
  go_loop [8, 11] (fun _ i => ∃ k : Nat, k ≤ zs.length ∧ i = .int .i64 k ∧ allB (zs.take k) lo hi = true) (fun _ i => zs.length - (intOf i).toNat)
  case atStart => exact ⟨0, Nat.zero_le _, rfl, by simp [allB]⟩
  case round =>
    obtain ⟨k, hk, rfl, hall⟩ := hrel
    by_cases hlt : k < zs.length
    · obtain ⟨b, off, rfl, _, _, hc⟩ := hr (by omega)
      have hck := hc k hlt
      clear hc
      by_cases hin : lo ≤ zs[k] ∧ zs[k] ≤ hi
      · have hall2 := Lib.hid (allB_snoc hlt hall hin)
        clear hall
        have hb : inB (zs[k]) lo hi = true := inB_t hin
        clear hin
        go_wp2_with (go_at_call 39; refine (within_any _ _ _ _).mono ?_; rintro e w' ⟨rfl, rfl⟩)
        go_round
        case rel => exact ⟨k + 1, by omega, by go_num, hall2.out⟩
        case measure => simp [intOf]; omega
      · have hb : inB (zs[k]) lo hi = false := inB_f hin
        have hfin := Lib.hid (allB_false hlt hin)
        clear hall hin
        go_wp2_with (go_at_call 39; refine (within_any _ _ _ _).mono ?_; rintro e w' ⟨rfl, rfl⟩)
        go_ret
        exact ⟨by rw [hfin.out]; rfl, rfl⟩
    · have hkk : zs.take k = zs := List.take_of_length_le (by omega)
      rw [hkk] at hall
      have hfin := Lib.hid hall
      clear hall hkk
      go_wp2
      go_ret
      exact ⟨by rw [hfin.out]; rfl, rfl⟩
set_option maxHeartbeats 400000 in
theorem l1All_any (zs : List Int) (A : Option Addr) (c : Nat) {l h : Nat} (lo hi : Int) (w : World) (hr : Rd w l h A zs) (hl : zs.length ≤ 9223372036854775807) :
    Calls Tryd.prog 72 #[.slice A zs.length c, .int .i64 lo, .int .i64 hi] w fun e w' => e = .returned (.bool (allB zs lo hi)) ∧ w = w' := by
  go_enter Tryd.func72, Tryd.ntmps72
  go_wp2
  go_loop [8, 11] (fun _ i => ∃ k : Nat, k ≤ zs.length ∧ i = .int .i64 k ∧ allB (zs.take k) lo hi = true) (fun _ i => zs.length - (intOf i).toNat)
  case atStart => exact ⟨0, Nat.zero_le _, rfl, by simp [allB]⟩
  case round =>
    obtain ⟨k, hk, rfl, hall⟩ := hrel
    by_cases hlt : k < zs.length
    · obtain ⟨b, off, rfl, _, _, hc⟩ := hr (by omega)
      have hck := hc k hlt
      clear hc
      by_cases hin : lo ≤ zs[k] ∧ zs[k] ≤ hi
      · have hall2 := Lib.hid (allB_snoc hlt hall hin)
        clear hall
        have hb : inB (zs[k]) lo hi = true := inB_t hin
        clear hin
        go_wp2_with (go_at_call 41; refine (l1In_any _ _ _ _).mono ?_; rintro e w' ⟨rfl, rfl⟩)
        go_round
        case rel => exact ⟨k + 1, by omega, by go_num, hall2.out⟩
        case measure => simp [intOf]; omega
      · have hb : inB (zs[k]) lo hi = false := inB_f hin
        have hfin := Lib.hid (allB_false hlt hin)
        clear hall hin
        go_wp2_with (go_at_call 41; refine (l1In_any _ _ _ _).mono ?_; rintro e w' ⟨rfl, rfl⟩)
        go_ret
        exact ⟨by rw [hfin.out]; rfl, rfl⟩
    · have hkk : zs.take k = zs := List.take_of_length_le (by omega)
      rw [hkk] at hall
      have hfin := Lib.hid hall
      clear hall hkk
      go_wp2
      go_ret
      exact ⟨by rw [hfin.out]; rfl, rfl⟩
set_option maxHeartbeats 400000 in
theorem l1Own_any (zs : List Int) (A : Option Addr) (c : Nat) {l h : Nat} (w : World) (hr0 : Rd w l h A zs) (hl : zs.length ≤ 1000000000000) :
    Calls Tryd.prog 49 #[.slice A zs.length c] w fun e w' => ∃ v, e = .returned v ∧ Own w' w.heap.size w'.heap.size v zs ∧ Below w.heap.size w w' := by
  have hr := hr0.std
  clear hr0
  go_enter Tryd.func49, Tryd.ntmps49
  have hm := Own.made (lo := w.heap.size) (hi := w.heap.size + 1) w [] #[] rfl (by simp) (Nat.le_refl _) (by omega)
  have hr2 := (hr.alloc (.cells #[] 3)).mono (Nat.le_refl _) (show w.heap.size ≤ (w.alloc (.cells #[] 3)).heap.size by simp)
  go_wp2_with (at_builtin; refine wp_append_ints rfl (.tmp 3) (.tmp 4) rfl rfl hm rfl hr2 (by simp; omega) (by simp) ?_; intro v1 w1 hown1 hg1 hb1 hat1)
  go_ret
  exact ⟨_, rfl, by simpa using hown1, ((Below.refl _ _).alloc (Nat.le_refl _) _).trans hb1⟩


set_option maxHeartbeats 400000 in
theorem Index_any (zs : List Int) (A : Option Addr) (c : Nat) {l h : Nat} (n : Int) (w : World) (hr : Rd w l h A zs) (hl : zs.length ≤ 9223372036854775807) :
    Calls Tryd.prog 30 #[.slice A zs.length c, .int .i64 n] w fun e w' => e = .returned (.int .i64 (idxI zs n)) ∧ w = w' := by
  go_enter Tryd.func30, Tryd.ntmps30
  go_wp2
  go_loop [5, 8] (fun _ i => ∃ k : Nat, k ≤ zs.length ∧ i = .int .i64 k ∧ (∀ j (h : j < zs.length), j < k → zs[j] ≠ n)) (fun _ i => zs.length - (intOf i).toNat)
  case atStart => exact ⟨0, Nat.zero_le _, rfl, fun j _ h => absurd h (by omega)⟩
  case round =>
    obtain ⟨k, hk, rfl, hall⟩ := hrel
    have hallH := Lib.hid hall
    clear hall
    by_cases hlt : k < zs.length
    · obtain ⟨b, off, rfl, _, _, hc⟩ := hr (by omega)
      have hck := hc k hlt
      clear hc
      by_cases heq : zs[k] = n
      · have ht : (n == zs[k]) = true := by simp [heq]
        have hq := Lib.hid (idxI_at hlt heq hallH.out)
        clear heq
        go_wp2
        go_ret
        exact ⟨by rw [hq.out]; rfl, rfl⟩
      · have ht : (n == zs[k]) = false := by simp; exact fun e => heq e.symm
        have hq := Lib.hid heq
        clear heq
        go_wp2
        go_round
        case rel => exact ⟨k + 1, by omega, by go_num, fun j h1 h2 => by
          by_cases hj : j = k
          · subst hj; exact hq.out
          · exact hallH.out j h1 (by omega)⟩
        case measure => simp [intOf]; omega
    · have hq := Lib.hid (idxI_no (zs := zs) (n := n) fun j h1 => hallH.out j h1 (by omega))
      go_wp2
      go_ret
      exact ⟨by rw [hq.out]; rfl, rfl⟩

end Go.Proofs.YtjhbffndiaggmaaDoor

/-
  Contracts of PageMix, of the program and of the reference. No conditions but the bound on a slice's length.
-/
namespace Go.Proofs.YtjhbffndiaggmaaDoor
open Go.RowKit Go.ChangeShapes Go.WideShapes
set_option linter.unusedVariables false

def pmB (zs : List Int) : Bool := decide (zs.length ≤ 5) && allB zs 0 1000000000
def pmV (zs : List Int) : Int := if pmB zs then mixL zs else 0
theorem pmB_t {zs : List Int} (h : zs.length ≤ 5) (h1 : allB zs 0 1000000000 = true) : pmB zs = true ∧ pmV zs = mixL zs := by
  have : pmB zs = true := by simp [pmB, h, h1]
  exact ⟨this, by simp [pmV, this]⟩
theorem pmB_f {zs : List Int} (h : ¬ (zs.length ≤ 5 ∧ allB zs 0 1000000000 = true)) : pmB zs = false ∧ pmV zs = 0 := by
  have : pmB zs = false := by cases hb : pmB zs with | false => rfl | true => simp [pmB] at hb; exact absurd hb h
  exact ⟨this, by simp [pmV, this]⟩

theorem ret_ib {a b : Int} {p q : Bool} (h : a = b) (h' : p = q) : Ending.returned (.tuple #[.int .i64 a, .bool p]) = .returned (.tuple #[.int .i64 b, .bool q]) := by rw [h, h']

end Go.Proofs.YtjhbffndiaggmaaDoor

/-
  Contracts of the laws' own helpers: sameInts, pIn, pSameKeys. The conditions are bounds on lengths.
-/
namespace Go.Proofs.YtjhbffndiaggmaaDoor
open Go.RowKit Go.ChangeShapes Go.WideShapes
set_option linter.unusedVariables false
set_option linter.unusedSimpArgs false

end Go.Proofs.YtjhbffndiaggmaaDoor

/-
  Contracts of the tests on intervals at a known answer. No conditions.
-/
namespace Go.Proofs.YtjhbffndiaggmaaDoor
open Go.RowKit Go.ChangeShapes Go.WideShapes
set_option linter.unusedVariables false

theorem within_q (n lo hi : Int) (w : World) (k : Nat) (v : Bool) (hv : inB n lo hi = v) :
    Calls Tryd.prog 39 #[.int .i64 n, .int .i64 lo, .int .i64 hi] (w.drewN k) fun e w' => e = .returned (.bool v) ∧ ∃ m, w' = w.drewN m :=
  (within_any n lo hi (w.drewN k)).mono fun e w' ⟨he, hw⟩ => ⟨hv ▸ he, k, hw.symm⟩
theorem within_u (n lo hi : Int) (w : World) (v : Bool) (hv : inB n lo hi = v) :
    Calls Tryd.prog 39 #[.int .i64 n, .int .i64 lo, .int .i64 hi] w fun e w' => e = .returned (.bool v) ∧ w = w' :=
  (within_any n lo hi w).mono fun e w' ⟨he, hw⟩ => ⟨hv ▸ he, hw⟩
theorem l1In_q (n lo hi : Int) (w : World) (k : Nat) (v : Bool) (hv : inB n lo hi = v) :
    Calls Tryd.prog 41 #[.int .i64 n, .int .i64 lo, .int .i64 hi] (w.drewN k) fun e w' => e = .returned (.bool v) ∧ ∃ m, w' = w.drewN m :=
  (l1In_any n lo hi (w.drewN k)).mono fun e w' ⟨he, hw⟩ => ⟨hv ▸ he, k, hw.symm⟩
theorem l1In_u (n lo hi : Int) (w : World) (v : Bool) (hv : inB n lo hi = v) :
    Calls Tryd.prog 41 #[.int .i64 n, .int .i64 lo, .int .i64 hi] w fun e w' => e = .returned (.bool v) ∧ w = w' :=
  (l1In_any n lo hi w).mono fun e w' ⟨he, hw⟩ => ⟨hv ▸ he, hw⟩
end Go.Proofs.YtjhbffndiaggmaaDoor
