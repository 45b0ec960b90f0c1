/-
  Contracts of small functions of the program, the reference and the package slices on slices of integers. The conditions are bounds on the lengths and numbers.
-/
import Derived.Test.YtaoobcjannbnjaaDoorMem
import Derived.Test.YtaoobcjannbnjaaDoorPure
import Derived.BigQuiet
import Derived.Deep.QuietTactic
import Derived.WalkSpells
namespace Go.Proofs.YtaoobcjannbnjaaDoor
open Go.RowKit Go.ChangeShapes Go.WideShapes
set_option linter.unusedVariables false

theorem within_any (n lo hi : Int) (w : World) :
    Calls Tryd.prog 43 #[.int .i64 n, .int .i64 lo, .int .i64 hi] w fun e w' => e = .returned (.bool (inB n lo hi)) ∧ w = w' := by
  by_cases h1 : lo ≤ n
  · by_cases h2 : n ≤ hi
    · go_enter Tryd.func43, Tryd.ntmps43
      go_wp2
      go_ret
      exact ⟨by simp [inB, h1, h2], rfl⟩
    · go_enter Tryd.func43, Tryd.ntmps43
      go_wp2
      go_ret
      exact ⟨by simp [inB, h1, h2], rfl⟩
  · go_enter Tryd.func43, Tryd.ntmps43
    go_wp2
    go_ret
    exact ⟨by simp [inB]; omega, rfl⟩

theorem l1In_any (n lo hi : Int) (w : World) :
    Calls Tryd.prog 41 #[.int .i64 n, .int .i64 lo, .int .i64 hi] w fun e w' => e = .returned (.bool (inB n lo hi)) ∧ w = w' := by
  by_cases h1 : lo ≤ n
  · by_cases h2 : n ≤ hi
    · go_enter Tryd.func41, Tryd.ntmps41
      go_wp2
      go_ret
      exact ⟨by simp [inB, h1, h2], rfl⟩
    · go_enter Tryd.func41, Tryd.ntmps41
      go_wp2
      go_ret
      exact ⟨by simp [inB, h1, h2], rfl⟩
  · go_enter Tryd.func41, Tryd.ntmps41
    go_wp2
    go_ret
    exact ⟨by simp [inB]; omega, rfl⟩

set_option maxHeartbeats 400000 in
theorem allWithin_any (zs : List Int) (A : Option Addr) (c : Nat) {l h : Nat} (lo hi : Int) (w : World) (hr : Rd w l h A zs) (hl : zs.length ≤ 9223372036854775807) :
    Calls Tryd.prog 77 #[.slice A zs.length c, .int .i64 lo, .int .i64 hi] w fun e w' => e = .returned (.bool (allB zs lo hi)) ∧ w = w' := by
  go_enter Tryd.func77, Tryd.ntmps77
  go_wp2
  go_loop [8, 11] (fun _ i => ∃ k : Nat, k ≤ zs.length ∧ i = .int .i64 k ∧ allB (zs.take k) lo hi = true) (fun _ i => zs.length - (intOf i).toNat)
  case atStart => exact ⟨0, Nat.zero_le _, rfl, by simp [allB]⟩
  case round =>
    obtain ⟨k, hk, rfl, hall⟩ := hrel
    by_cases hlt : k < zs.length
    · obtain ⟨b, off, rfl, _, _, hc⟩ := hr (by omega)
      have hck := hc k hlt
      clear hc
      by_cases hin : lo ≤ zs[k] ∧ zs[k] ≤ hi
      · have hall2 := Lib.hid (allB_snoc hlt hall hin)
        clear hall
        have hb : inB (zs[k]) lo hi = true := inB_t hin
        clear hin
        go_wp2_with (go_at_call 43; refine (within_any _ _ _ _).mono ?_; rintro e w' ⟨rfl, rfl⟩)
        go_round
        case rel => exact ⟨k + 1, by omega, by go_num, hall2.out⟩
        case measure => simp [intOf]; omega
      · have hb : inB (zs[k]) lo hi = false := inB_f hin
        have hfin := Lib.hid (allB_false hlt hin)
        clear hall hin
        go_wp2_with (go_at_call 43; refine (within_any _ _ _ _).mono ?_; rintro e w' ⟨rfl, rfl⟩)
        go_ret
        exact ⟨by rw [hfin.out]; rfl, rfl⟩
    · have hkk : zs.take k = zs := List.take_of_length_le (by omega)
      rw [hkk] at hall
      have hfin := Lib.hid hall
      clear hall hkk
      go_wp2
      go_ret
      exact ⟨by rw [hfin.out]; rfl, rfl⟩
set_option maxHeartbeats 400000 in
theorem l1All_any (zs : List Int) (A : Option Addr) (c : Nat) {l h : Nat} (lo hi : Int) (w : World) (hr : Rd w l h A zs) (hl : zs.length ≤ 9223372036854775807) :
    Calls Tryd.prog 101 #[.slice A zs.length c, .int .i64 lo, .int .i64 hi] w fun e w' => e = .returned (.bool (allB zs lo hi)) ∧ w = w' := by
  go_enter Tryd.func101, Tryd.ntmps101
  go_wp2
  go_loop [8, 11] (fun _ i => ∃ k : Nat, k ≤ zs.length ∧ i = .int .i64 k ∧ allB (zs.take k) lo hi = true) (fun _ i => zs.length - (intOf i).toNat)
  case atStart => exact ⟨0, Nat.zero_le _, rfl, by simp [allB]⟩
  case round =>
    obtain ⟨k, hk, rfl, hall⟩ := hrel
    by_cases hlt : k < zs.length
    · obtain ⟨b, off, rfl, _, _, hc⟩ := hr (by omega)
      have hck := hc k hlt
      clear hc
      by_cases hin : lo ≤ zs[k] ∧ zs[k] ≤ hi
      · have hall2 := Lib.hid (allB_snoc hlt hall hin)
        clear hall
        have hb : inB (zs[k]) lo hi = true := inB_t hin
        clear hin
        go_wp2_with (go_at_call 41; refine (l1In_any _ _ _ _).mono ?_; rintro e w' ⟨rfl, rfl⟩)
        go_round
        case rel => exact ⟨k + 1, by omega, by go_num, hall2.out⟩
        case measure => simp [intOf]; omega
      · have hb : inB (zs[k]) lo hi = false := inB_f hin
        have hfin := Lib.hid (allB_false hlt hin)
        clear hall hin
        go_wp2_with (go_at_call 41; refine (l1In_any _ _ _ _).mono ?_; rintro e w' ⟨rfl, rfl⟩)
        go_ret
        exact ⟨by rw [hfin.out]; rfl, rfl⟩
    · have hkk : zs.take k = zs := List.take_of_length_le (by omega)
      rw [hkk] at hall
      have hfin := Lib.hid hall
      clear hall hkk
      go_wp2
      go_ret
      exact ⟨by rw [hfin.out]; rfl, rfl⟩
set_option maxHeartbeats 400000 in
theorem Clone_any (zs : List Int) (A : Option Addr) (c : Nat) {l h : Nat} (w : World) (hr0 : Rd w l h A zs) (hl : zs.length ≤ 1000000000000) :
    Calls Tryd.prog 67 #[.slice A zs.length c] w fun e w' => ∃ v, e = .returned v ∧ Own w' w.heap.size w'.heap.size v zs ∧ Below w.heap.size w w' := by
  have hr := hr0.std
  clear hr0
  cases A with
  | none =>
    have hz : zs = [] := by
      rcases Nat.eq_zero_or_pos zs.length with h0 | h0
      · exact List.eq_nil_of_length_eq_zero h0
      · obtain ⟨b, off, h, _⟩ := hr h0
        cases h
    subst hz
    have he := fun (W : World) (a : Option Addr) (n c : Nat) => Lib.run_eql_slice_nil (P := Tryd.prog) W _ _ a n c 0 0 Tryd.underlying22
    go_enter Tryd.func67, Tryd.ntmps67
    go_wp2
    go_ret
    exact ⟨_, rfl, Own.nil, Below.refl _ _⟩
  | some ad =>
    have he := fun (W : World) (a : Option Addr) (n c : Nat) => Lib.run_eql_slice_nil (P := Tryd.prog) W _ _ a n c 0 0 Tryd.underlying22
    go_enter Tryd.func67, Tryd.ntmps67
    have hm := Own.made (lo := w.heap.size) (hi := w.heap.size + 1) w [] #[] rfl (by simp) (Nat.le_refl _) (by omega)
    have hr2 := (hr.alloc (.cells #[] 3)).mono (Nat.le_refl _) (show w.heap.size ≤ (w.alloc (.cells #[] 3)).heap.size by simp)
    go_wp2_with (at_builtin; refine wp_append_ints rfl (.tmp 5) (.tmp 6) rfl rfl hm rfl hr2 (by simp; omega) (by simp) ?_; intro v1 w1 hown1 hg1 hb1 hat1)
    go_ret
    exact ⟨_, rfl, by simpa using hown1, ((Below.refl _ _).alloc (Nat.le_refl _) _).trans hb1⟩


set_option maxHeartbeats 400000 in
theorem increasing_any (zs : List Int) (A : Option Addr) (c : Nat) {l h : Nat} (w : World) (hr : Rd w l h A zs) (hl : zs.length ≤ 9223372036854775806) :
    Calls Tryd.prog 78 #[.slice A zs.length c] w fun e w' => e = .returned (.bool (risB zs)) ∧ ∃ n, w.drewN n = w' := by
  go_enter Tryd.func78, Tryd.ntmps78
  go_wp2
  go_loopw [3] (fun i wr => ∃ k : Nat, k ≤ zs.length ∧ i = .int .i64 ((k : Int) + 1) ∧ (∀ j (h : j + 1 < zs.length), j < k → zs[j] < zs[j + 1]) ∧ ∃ n, w.drewN n = wr) (fun i _ => zs.length + 1 - (intOf i).toNat)
  case atStart => exact ⟨0, Nat.zero_le _, rfl, fun j _ h => absurd h (by omega), 0, rfl⟩
  case round =>
    obtain ⟨k, hk, rfl, hall, n, rfl⟩ := hrel
    have hallH := Lib.hid hall
    clear hall
    by_cases hlt : k + 1 < zs.length
    · obtain ⟨b, off, rfl, _, _, hc⟩ := hr (by omega)
      have hck := hc k (by omega)
      have hck' := hc (k + 1) hlt
      clear hc
      have i0 : (0 : Int) ≤ (k : Int) := by omega
      have i1 : (k : Int) < (zs.length : Int) := by omega
      have i2 : (0 : Int) ≤ (k : Int) + 1 := by omega
      have i3 : (k : Int) + 1 < (zs.length : Int) := by omega
      by_cases heq : zs[k] < zs[k + 1]
      · have ht : decide (zs[k + 1] ≤ zs[k]) = false := by simp; omega
        have hq := Lib.hid heq
        clear heq
        go_wp2
        go_quiet (fail)
        go_wp2
        go_roundw
        case rel => exact ⟨k + 1, by omega, by go_num, fun j h1 h2 => by
          by_cases hj : j = k
          · subst hj; exact hq.out
          · exact hallH.out j h1 (by omega), _, by first | rfl | exact (World.drewN_drewN _ _ _).symm⟩
        case measure => simp [intOf]; omega
      · have ht : decide (zs[k + 1] ≤ zs[k]) = true := by simp; omega
        have hq := Lib.hid (risB_false hlt heq)
        clear heq
        go_wp2
        go_quiet (fail)
        go_wp2
        go_ret
        exact ⟨by rw [hq.out]; rfl, _, by first | rfl | exact (World.drewN_drewN _ _ _).symm⟩
    · have hq := Lib.hid (risB_true (zs := zs) fun j h1 => hallH.out j h1 (by omega))
      go_wp2
      go_ret
      exact ⟨by rw [hq.out]; rfl, _, rfl⟩
set_option maxHeartbeats 1000000 in
theorem l1Rising_any (zs : List Int) (A : Option Addr) (c : Nat) {l h : Nat} (lo hi : Int) (w : World) (hr : Rd w l h A zs) (hl : zs.length ≤ 9223372036854775806) :
    Calls Tryd.prog 75 #[.slice A zs.length c, .int .i64 lo, .int .i64 hi] w fun e w' => e = .returned (.bool (risinB zs lo hi)) ∧ w = w' := by
  go_enter Tryd.func75, Tryd.ntmps75
  go_wp2
  go_loop [7, 8, 11] (fun _ _ i => ∃ k : Nat, k ≤ zs.length ∧ i = .int .i64 k ∧ (∀ j (h : j < zs.length), j < k → lo ≤ zs[j] ∧ zs[j] ≤ hi) ∧ (∀ j (h : j + 1 < zs.length), j + 1 < k → zs[j] < zs[j + 1])) (fun _ _ i => zs.length - (intOf i).toNat)
  case atStart => exact ⟨0, Nat.zero_le _, rfl, fun j _ h => absurd h (by omega), fun j _ h => absurd h (by omega)⟩
  case round =>
    obtain ⟨k, hk, rfl, hall, hris⟩ := hrel
    have hallH := Lib.hid hall
    have hrisH := Lib.hid hris
    clear hall hris
    by_cases hlt : k < zs.length
    · obtain ⟨b, off, rfl, _, _, hc⟩ := hr (by omega)
      have hck := hc k hlt
      by_cases hin : lo ≤ zs[k] ∧ zs[k] ≤ hi
      · have hb : inB (zs[k]) lo hi = true := inB_t hin
        have hinH := Lib.hid hin
        clear hin
        rcases Nat.eq_zero_or_pos k with hk0 | hk0
        · subst hk0
          clear hc
          rw [Nat.add_zero] at hck
          go_wp2_with (go_at_call 41; refine (l1In_any _ _ _ _).mono ?_; rintro e w' ⟨rfl, rfl⟩)
          go_round
          case rel => exact ⟨1, by omega, by go_num, fun j h1 h2 => by
            obtain rfl : j = 0 := by omega
            exact hinH.out, fun j _ h => absurd h (by omega)⟩
          case measure => simp [intOf]; omega
        · obtain ⟨m, rfl⟩ : ∃ m, k = m + 1 := ⟨k - 1, by omega⟩
          have hcm := hc m (by omega)
          clear hc hk0
          have i0 : (0 : Int) ≤ (m : Int) := by omega
          have i1 : (m : Int) < (zs.length : Int) := by omega
          have i2 : decide ((0 : Int) < (m : Int) + 1) = true := by simp <;> omega
          by_cases heq : zs[m] < zs[m + 1]
          · have ht : decide (zs[m + 1] ≤ zs[m]) = false := by simp; omega
            have hq := Lib.hid heq
            clear heq
            go_wp2_with (go_at_call 41; refine (l1In_any _ _ _ _).mono ?_; rintro e w' ⟨rfl, rfl⟩)
            go_round
            case rel => exact ⟨m + 1 + 1, by omega, by go_num, fun j h1 h2 => by
              by_cases hj : j = m + 1
              · subst hj; exact hinH.out
              · exact hallH.out j h1 (by omega), fun j h1 h2 => by
              by_cases hj : j = m
              · subst hj; exact hq.out
              · exact hrisH.out j h1 (by omega)⟩
            case measure => simp [intOf]; omega
          · have ht : decide (zs[m + 1] ≤ zs[m]) = true := by simp; omega
            have hq := Lib.hid (risinB_false' (lo := lo) (hi := hi) hlt heq)
            clear heq
            go_wp2_with (go_at_call 41; refine (l1In_any _ _ _ _).mono ?_; rintro e w' ⟨rfl, rfl⟩)
            go_ret
            exact ⟨by rw [hq.out]; rfl, rfl⟩
      · have hb : inB (zs[k]) lo hi = false := inB_f hin
        have hq := Lib.hid (risinB_false hlt hin)
        clear hin hc
        go_wp2_with (go_at_call 41; refine (l1In_any _ _ _ _).mono ?_; rintro e w' ⟨rfl, rfl⟩)
        go_ret
        exact ⟨by rw [hq.out]; rfl, rfl⟩
    · have hq := Lib.hid (risinB_true (zs := zs) (lo := lo) (hi := hi) (fun j h1 => hallH.out j h1 (by omega)) fun j h1 => hrisH.out j h1 (by omega))
      go_wp2
      go_ret
      exact ⟨by rw [hq.out]; rfl, rfl⟩
set_option maxHeartbeats 400000 in
theorem l1Has_any (zs : List Int) (A : Option Addr) (c : Nat) {l h : Nat} (n : Int) (w : World) (hr : Rd w l h A zs) (hl : zs.length ≤ 9223372036854775807) :
    Calls Tryd.prog 86 #[.slice A zs.length c, .int .i64 n] w fun e w' => e = .returned (.bool (hasB zs n)) ∧ w = w' := by
  go_enter Tryd.func86, Tryd.ntmps86
  go_wp2
  go_loop [6, 9] (fun _ i => ∃ k : Nat, k ≤ zs.length ∧ i = .int .i64 k ∧ (∀ j (h : j < zs.length), j < k → zs[j] ≠ n)) (fun _ i => zs.length - (intOf i).toNat)
  case atStart => exact ⟨0, Nat.zero_le _, rfl, fun j _ h => absurd h (by omega)⟩
  case round =>
    obtain ⟨k, hk, rfl, hall⟩ := hrel
    have hallH := Lib.hid hall
    clear hall
    by_cases hlt : k < zs.length
    · obtain ⟨b, off, rfl, _, _, hc⟩ := hr (by omega)
      have hck := hc k hlt
      clear hc
      by_cases heq : zs[k] = n
      · have ht : (zs[k] == n) = true := by simp [heq]
        have hq := Lib.hid (hasB_at hlt heq)
        clear heq
        go_wp2
        go_ret
        exact ⟨by rw [hq.out]; rfl, rfl⟩
      · have ht : (zs[k] == n) = false := by simp [heq]
        have hq := Lib.hid heq
        clear heq
        go_wp2
        go_round
        case rel => exact ⟨k + 1, by omega, by go_num, fun j h1 h2 => by
          by_cases hj : j = k
          · subst hj; exact hq.out
          · exact hallH.out j h1 (by omega)⟩
        case measure => simp [intOf]; omega
    · have hq := Lib.hid (hasB_no (zs := zs) (n := n) fun j h1 => hallH.out j h1 (by omega))
      go_wp2
      go_ret
      exact ⟨by rw [hq.out]; rfl, rfl⟩

end Go.Proofs.YtaoobcjannbnjaaDoor
