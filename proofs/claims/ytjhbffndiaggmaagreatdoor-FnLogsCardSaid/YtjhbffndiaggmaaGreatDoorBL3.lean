/-
  Contracts and plain laws that the walk uses, several texts in one. The conditions are named ahead of each.
-/
import Derived.Test.YtjhbffndiaggmaaGreatDoorBL1
import Derived.Test.YtjhbffndiaggmaaGreatDoorBL2
import Derived.BigQuiet
import Derived.Deep.QuietTactic
import Derived.WalkSpells

/-
  Contracts of small functions of the program, the reference and the package slices on slices of integers. The conditions are bounds on the lengths and numbers.
-/
namespace Go.Proofs.YtjhbffndiaggmaaGreatDoor
open Go.RowKit Go.ChangeShapes Go.WideShapes
set_option linter.unusedVariables false

theorem within_any (n lo hi : Int) (w : World) :
    Calls Tryz.prog 79 #[.int .i64 n, .int .i64 lo, .int .i64 hi] w fun e w' => e = .returned (.bool (inB n lo hi)) ∧ w = w' := by
  by_cases h1 : lo ≤ n
  · by_cases h2 : n ≤ hi
    · go_enter Tryz.func79, Tryz.ntmps79
      go_wp2
      go_ret
      exact ⟨by simp [inB, h1, h2], rfl⟩
    · go_enter Tryz.func79, Tryz.ntmps79
      go_wp2
      go_ret
      exact ⟨by simp [inB, h1, h2], rfl⟩
  · go_enter Tryz.func79, Tryz.ntmps79
    go_wp2
    go_ret
    exact ⟨by simp [inB]; omega, rfl⟩

theorem l1In_any (n lo hi : Int) (w : World) :
    Calls Tryz.prog 104 #[.int .i64 n, .int .i64 lo, .int .i64 hi] w fun e w' => e = .returned (.bool (inB n lo hi)) ∧ w = w' := by
  by_cases h1 : lo ≤ n
  · by_cases h2 : n ≤ hi
    · go_enter Tryz.func104, Tryz.ntmps104
      go_wp2
      go_ret
      exact ⟨by simp [inB, h1, h2], rfl⟩
    · go_enter Tryz.func104, Tryz.ntmps104
      go_wp2
      go_ret
      exact ⟨by simp [inB, h1, h2], rfl⟩
  · go_enter Tryz.func104, Tryz.ntmps104
    go_wp2
    go_ret
    exact ⟨by simp [inB]; omega, rfl⟩

set_option maxHeartbeats 400000 in
theorem allWithin_any (zs : List Int) (A : Option Addr) (c : Nat) {l h : Nat} (lo hi : Int) (w : World) (hr : Rd w l h A zs) (hl : zs.length ≤ 9223372036854775807) :
    Calls Tryz.prog 80 #[.slice A zs.length c, .int .i64 lo, .int .i64 hi] w fun e w' => e = .returned (.bool (allB zs lo hi)) ∧ w = w' := by
  go_enter Tryz.func80, Tryz.ntmps80
  go_wp2
  go_loop [8, 11] (fun _ i => ∃ k : Nat, k ≤ zs.length ∧ i = .int .i64 k ∧ allB (zs.take k) lo hi = true) (fun _ i => zs.length - (intOf i).toNat)
  case atStart => exact ⟨0, Nat.zero_le _, rfl, by simp [allB]⟩
  case round =>
    obtain ⟨k, hk, rfl, hall⟩ := hrel
    by_cases hlt : k < zs.length
    · obtain ⟨b, off, rfl, _, _, hc⟩ := hr (by omega)
      have hck := hc k hlt
      clear hc
      by_cases hin : lo ≤ zs[k] ∧ zs[k] ≤ hi
      · have hall2 := Lib.hid (allB_snoc hlt hall hin)
        clear hall
        have hb : inB (zs[k]) lo hi = true := inB_t hin
        clear hin
        go_wp2_with (go_at_call 79; refine (within_any _ _ _ _).mono ?_; rintro e w' ⟨rfl, rfl⟩)
        go_round
        case rel => exact ⟨k + 1, by omega, by go_num, hall2.out⟩
        case measure => simp [intOf]; omega
      · have hb : inB (zs[k]) lo hi = false := inB_f hin
        have hfin := Lib.hid (allB_false hlt hin)
        clear hall hin
        go_wp2_with (go_at_call 79; refine (within_any _ _ _ _).mono ?_; rintro e w' ⟨rfl, rfl⟩)
        go_ret
        exact ⟨by rw [hfin.out]; rfl, rfl⟩
    · have hkk : zs.take k = zs := List.take_of_length_le (by omega)
      rw [hkk] at hall
      have hfin := Lib.hid hall
      clear hall hkk
      go_wp2
      go_ret
      exact ⟨by rw [hfin.out]; rfl, rfl⟩
set_option maxHeartbeats 400000 in
theorem l1All_any (zs : List Int) (A : Option Addr) (c : Nat) {l h : Nat} (lo hi : Int) (w : World) (hr : Rd w l h A zs) (hl : zs.length ≤ 9223372036854775807) :
    Calls Tryz.prog 186 #[.slice A zs.length c, .int .i64 lo, .int .i64 hi] w fun e w' => e = .returned (.bool (allB zs lo hi)) ∧ w = w' := by
  go_enter Tryz.func186, Tryz.ntmps186
  go_wp2
  go_loop [8, 11] (fun _ i => ∃ k : Nat, k ≤ zs.length ∧ i = .int .i64 k ∧ allB (zs.take k) lo hi = true) (fun _ i => zs.length - (intOf i).toNat)
  case atStart => exact ⟨0, Nat.zero_le _, rfl, by simp [allB]⟩
  case round =>
    obtain ⟨k, hk, rfl, hall⟩ := hrel
    by_cases hlt : k < zs.length
    · obtain ⟨b, off, rfl, _, _, hc⟩ := hr (by omega)
      have hck := hc k hlt
      clear hc
      by_cases hin : lo ≤ zs[k] ∧ zs[k] ≤ hi
      · have hall2 := Lib.hid (allB_snoc hlt hall hin)
        clear hall
        have hb : inB (zs[k]) lo hi = true := inB_t hin
        clear hin
        go_wp2_with (go_at_call 104; refine (l1In_any _ _ _ _).mono ?_; rintro e w' ⟨rfl, rfl⟩)
        go_round
        case rel => exact ⟨k + 1, by omega, by go_num, hall2.out⟩
        case measure => simp [intOf]; omega
      · have hb : inB (zs[k]) lo hi = false := inB_f hin
        have hfin := Lib.hid (allB_false hlt hin)
        clear hall hin
        go_wp2_with (go_at_call 104; refine (l1In_any _ _ _ _).mono ?_; rintro e w' ⟨rfl, rfl⟩)
        go_ret
        exact ⟨by rw [hfin.out]; rfl, rfl⟩
    · have hkk : zs.take k = zs := List.take_of_length_le (by omega)
      rw [hkk] at hall
      have hfin := Lib.hid hall
      clear hall hkk
      go_wp2
      go_ret
      exact ⟨by rw [hfin.out]; rfl, rfl⟩
set_option maxHeartbeats 400000 in
theorem l1Own_any (zs : List Int) (A : Option Addr) (c : Nat) {l h : Nat} (w : World) (hr0 : Rd w l h A zs) (hl : zs.length ≤ 1000000000000) :
    Calls Tryz.prog 94 #[.slice A zs.length c] w fun e w' => ∃ v, e = .returned v ∧ Own w' w.heap.size w'.heap.size v zs ∧ Below w.heap.size w w' := by
  have hr := hr0.std
  clear hr0
  go_enter Tryz.func94, Tryz.ntmps94
  have hm := Own.made (lo := w.heap.size) (hi := w.heap.size + 1) w [] #[] rfl (by simp) (Nat.le_refl _) (by omega)
  have hr2 := (hr.alloc (.cells #[] 3)).mono (Nat.le_refl _) (show w.heap.size ≤ (w.alloc (.cells #[] 3)).heap.size by simp)
  go_wp2_with (at_builtin; refine wp_append_ints rfl (.tmp 3) (.tmp 4) rfl rfl hm rfl hr2 (by simp; omega) (by simp) ?_; intro v1 w1 hown1 hg1 hb1 hat1)
  go_ret
  exact ⟨_, rfl, by simpa using hown1, ((Below.refl _ _).alloc (Nat.le_refl _) _).trans hb1⟩
set_option maxHeartbeats 400000 in
theorem Clone_any (zs : List Int) (A : Option Addr) (c : Nat) {l h : Nat} (w : World) (hr0 : Rd w l h A zs) (hl : zs.length ≤ 1000000000000) :
    Calls Tryz.prog 85 #[.slice A zs.length c] w fun e w' => ∃ v, e = .returned v ∧ Own w' w.heap.size w'.heap.size v zs ∧ Below w.heap.size w w' := by
  have hr := hr0.std
  clear hr0
  cases A with
  | none =>
    have hz : zs = [] := by
      rcases Nat.eq_zero_or_pos zs.length with h0 | h0
      · exact List.eq_nil_of_length_eq_zero h0
      · obtain ⟨b, off, h, _⟩ := hr h0
        cases h
    subst hz
    have he := fun (W : World) (a : Option Addr) (n c : Nat) => Lib.run_eql_slice_nil (P := Tryz.prog) W _ _ a n c 0 0 Tryz.underlying24
    go_enter Tryz.func85, Tryz.ntmps85
    go_wp2
    go_ret
    exact ⟨_, rfl, Own.nil, Below.refl _ _⟩
  | some ad =>
    have he := fun (W : World) (a : Option Addr) (n c : Nat) => Lib.run_eql_slice_nil (P := Tryz.prog) W _ _ a n c 0 0 Tryz.underlying24
    go_enter Tryz.func85, Tryz.ntmps85
    have hm := Own.made (lo := w.heap.size) (hi := w.heap.size + 1) w [] #[] rfl (by simp) (Nat.le_refl _) (by omega)
    have hr2 := (hr.alloc (.cells #[] 3)).mono (Nat.le_refl _) (show w.heap.size ≤ (w.alloc (.cells #[] 3)).heap.size by simp)
    go_wp2_with (at_builtin; refine wp_append_ints rfl (.tmp 5) (.tmp 6) rfl rfl hm rfl hr2 (by simp; omega) (by simp) ?_; intro v1 w1 hown1 hg1 hb1 hat1)
    go_ret
    exact ⟨_, rfl, by simpa using hown1, ((Below.refl _ _).alloc (Nat.le_refl _) _).trans hb1⟩

set_option maxHeartbeats 1000000 in
theorem kyMix_any (zs : List Int) (A : Option Addr) (c : Nat) {l h : Nat} (w : World) (hr0 : Rd w l h A zs) (hl : zs.length ≤ 1000) (ha : allB zs 0 1000000000 = true) :
    Calls Tryz.prog 156 #[.slice A zs.length c] w fun e w' => e = .returned (.int .i64 (mixL zs)) ∧ Below w.heap.size w w' := by
  have hr := hr0.std
  clear hr0
  go_enter Tryz.func156, Tryz.ntmps156
  go_wp2_with (first
    | (go_at_call 94; refine (l1Own_any zs A c _ hr (by omega)).mono ?_; rintro e w1 ⟨v1, rfl, hown1, hb1⟩)
    | (at_builtin; refine wp_append_ints rfl (.tmp 10) (.tmp 11) rfl rfl (hown1.alloc _) (ys := [3, 7]) rfl ((Rd.one w1 _ _ _ rfl).mono (Nat.zero_le _) (by simp)) (by simp; omega) (by simp; exact Nat.le_succ_of_le hb1.size) ?_; intro v2 w2 hown2 hg2 hb2 hat2; change Own w2 _ _ v2 (mixKeys zs) at hown2; obtain ⟨A2, c2, rfl, hr2, hc2⟩ := hown2.rd))
  have hb := (hb1.alloc hb1.size (.cells #[.int .i64 3, .int .i64 7] 3)).trans hb2
  have hm : Hid (mixL zs = mixTo (6907 + zs.length) (mixKeys zs)) := Lib.hid rfl
  have hl2 : (mixKeys zs).length ≤ 1002 := by rw [mixKeys_len]; omega
  have hlast := mixKeys_bd ha
  clear hown1 hown2 hb1 hb2 hg2 hat2 hr ha
  generalize mixKeys zs = ks at *
  go_loop [3, 5, 14] (fun a _ i => ∃ k : Nat, k ≤ ks.length ∧ i = .int .i64 k ∧ a = .int .i64 (mixTo (6907 + zs.length) (ks.take k))) (fun _ _ i => ks.length - (intOf i).toNat)
  case atStart => exact ⟨0, Nat.zero_le _, rfl, rfl⟩
  case round =>
    obtain ⟨k, hk, rfl, rfl⟩ := hrel
    have hbd := mixTo_bd (6907 + zs.length) (ks.take k) 1000003 (by omega) (by omega) (by omega)
    by_cases hlt : k < ks.length
    · obtain ⟨b, off, rfl, _, _, hc⟩ := hr2 (by omega)
      have hck := hc k hlt
      have hx := hlast k hlt
      have hsn := mixTo_snoc (6907 + zs.length) ks k hlt
      have hsb := mixStep_bd (mixTo (6907 + zs.length) (ks.take k)) ks[k]
      generalize mixTo (6907 + (zs.length : Int)) (ks.take k) = m at *
      generalize ks[k] = x at *
      obtain ⟨b2, hb2⟩ : ∃ b2, b2 = (19 * m + x + 23) % 1000003 := ⟨_, rfl⟩
      have hb2a : 0 ≤ b2 := by rw [hb2]; exact Int.emod_nonneg _ (by omega)
      have hb2b : b2 < 1000003 := by rw [hb2]; exact Int.emod_lt_of_pos _ (by omega)
      have hst := mixStep_eq m x b2 hb2
      have hpr : 0 ≤ b2 * (b2 / 16 + 11) := Int.mul_nonneg hb2a (by omega)
      have hpr2 : b2 * (b2 / 16 + 11) ≤ 1000003 * 62512 := Int.mul_le_mul (by omega) (by omega) (by omega) (by omega)
      rw [hst] at hsn
      have hsnH := Lib.hid hsn
      have hb2' := hb2.symm
      clear hsn hst hc hlast hsb hb2
      go_wp2
      go_round
      case rel => exact ⟨k + 1, by omega, by go_num, by rw [hsnH.out]⟩
      case measure => simp [intOf]; omega
    · have hkk : ks.take k = ks := List.take_of_length_le (by omega)
      rw [hkk] at hbd ⊢
      clear hkk hlast
      go_wp2
      go_ret
      exact ⟨by rw [hm.out]; rfl, hb⟩
set_option maxHeartbeats 1000000 in
theorem mixOf_any (zs : List Int) (A : Option Addr) (c : Nat) {l h : Nat} (w : World) (hr0 : Rd w l h A zs) (hl : zs.length ≤ 1000) (ha : allB zs 0 1000000000 = true) :
    Calls Tryz.prog 154 #[.slice A zs.length c] w fun e w' => e = .returned (.int .i64 (mixL zs)) ∧ Below w.heap.size w w' := by
  have hr := hr0.std
  clear hr0
  go_enter Tryz.func154, Tryz.ntmps154
  go_wp2_with (first
    | (go_at_call 85; refine (Clone_any zs A c _ hr (by omega)).mono ?_; rintro e w1 ⟨v1, rfl, hown1, hb1⟩)
    | (at_builtin; refine wp_append_ints rfl (.tmp 10) (.tmp 11) rfl rfl (hown1.alloc _) (ys := [3, 7]) rfl ((Rd.one w1 _ _ _ rfl).mono (Nat.zero_le _) (by simp)) (by simp; omega) (by simp; exact Nat.le_succ_of_le hb1.size) ?_; intro v2 w2 hown2 hg2 hb2 hat2; change Own w2 _ _ v2 (mixKeys zs) at hown2; obtain ⟨A2, c2, rfl, hr2, hc2⟩ := hown2.rd))
  have hb := (hb1.alloc hb1.size (.cells #[.int .i64 3, .int .i64 7] 3)).trans hb2
  have hm : Hid (mixL zs = mixTo (6907 + zs.length) (mixKeys zs)) := Lib.hid rfl
  have hl2 : (mixKeys zs).length ≤ 1002 := by rw [mixKeys_len]; omega
  have hlast := mixKeys_bd ha
  clear hown1 hown2 hb1 hb2 hg2 hat2 hr ha
  generalize mixKeys zs = ks at *
  go_loop [3, 5, 14] (fun a _ i => ∃ k : Nat, k ≤ ks.length ∧ i = .int .i64 k ∧ a = .int .i64 (mixTo (6907 + zs.length) (ks.take k))) (fun _ _ i => ks.length - (intOf i).toNat)
  case atStart => exact ⟨0, Nat.zero_le _, rfl, rfl⟩
  case round =>
    obtain ⟨k, hk, rfl, rfl⟩ := hrel
    have hbd := mixTo_bd (6907 + zs.length) (ks.take k) 1000003 (by omega) (by omega) (by omega)
    by_cases hlt : k < ks.length
    · obtain ⟨b, off, rfl, _, _, hc⟩ := hr2 (by omega)
      have hck := hc k hlt
      have hx := hlast k hlt
      have hsn := mixTo_snoc (6907 + zs.length) ks k hlt
      have hsb := mixStep_bd (mixTo (6907 + zs.length) (ks.take k)) ks[k]
      generalize mixTo (6907 + (zs.length : Int)) (ks.take k) = m at *
      generalize ks[k] = x at *
      obtain ⟨b2, hb2⟩ : ∃ b2, b2 = (19 * m + x + 23) % 1000003 := ⟨_, rfl⟩
      have hb2a : 0 ≤ b2 := by rw [hb2]; exact Int.emod_nonneg _ (by omega)
      have hb2b : b2 < 1000003 := by rw [hb2]; exact Int.emod_lt_of_pos _ (by omega)
      have hst := mixStep_eq m x b2 hb2
      have hpr : 0 ≤ b2 * (b2 / 16 + 11) := Int.mul_nonneg hb2a (by omega)
      have hpr2 : b2 * (b2 / 16 + 11) ≤ 1000003 * 62512 := Int.mul_le_mul (by omega) (by omega) (by omega) (by omega)
      rw [hst] at hsn
      have hsnH := Lib.hid hsn
      have hb2' := hb2.symm
      clear hsn hst hc hlast hsb hb2
      go_wp2
      go_round
      case rel => exact ⟨k + 1, by omega, by go_num, by rw [hsnH.out]⟩
      case measure => simp [intOf]; omega
    · have hkk : ks.take k = ks := List.take_of_length_le (by omega)
      rw [hkk] at hbd ⊢
      clear hkk hlast
      go_wp2
      go_ret
      exact ⟨by rw [hm.out]; rfl, hb⟩

set_option maxHeartbeats 400000 in
theorem increasing_any (zs : List Int) (A : Option Addr) (c : Nat) {l h : Nat} (w : World) (hr : Rd w l h A zs) (hl : zs.length ≤ 9223372036854775806) :
    Calls Tryz.prog 81 #[.slice A zs.length c] w fun e w' => e = .returned (.bool (risB zs)) ∧ ∃ n, w.drewN n = w' := by
  go_enter Tryz.func81, Tryz.ntmps81
  go_wp2
  go_loopw [3] (fun i wr => ∃ k : Nat, k ≤ zs.length ∧ i = .int .i64 ((k : Int) + 1) ∧ (∀ j (h : j + 1 < zs.length), j < k → zs[j] < zs[j + 1]) ∧ ∃ n, w.drewN n = wr) (fun i _ => zs.length + 1 - (intOf i).toNat)
  case atStart => exact ⟨0, Nat.zero_le _, rfl, fun j _ h => absurd h (by omega), 0, rfl⟩
  case round =>
    obtain ⟨k, hk, rfl, hall, n, rfl⟩ := hrel
    have hallH := Lib.hid hall
    clear hall
    by_cases hlt : k + 1 < zs.length
    · obtain ⟨b, off, rfl, _, _, hc⟩ := hr (by omega)
      have hck := hc k (by omega)
      have hck' := hc (k + 1) hlt
      clear hc
      have i0 : (0 : Int) ≤ (k : Int) := by omega
      have i1 : (k : Int) < (zs.length : Int) := by omega
      have i2 : (0 : Int) ≤ (k : Int) + 1 := by omega
      have i3 : (k : Int) + 1 < (zs.length : Int) := by omega
      by_cases heq : zs[k] < zs[k + 1]
      · have ht : decide (zs[k + 1] ≤ zs[k]) = false := by simp; omega
        have hq := Lib.hid heq
        clear heq
        go_wp2
        go_quiet (fail)
        go_wp2
        go_roundw
        case rel => exact ⟨k + 1, by omega, by go_num, fun j h1 h2 => by
          by_cases hj : j = k
          · subst hj; exact hq.out
          · exact hallH.out j h1 (by omega), _, by first | rfl | exact (World.drewN_drewN _ _ _).symm⟩
        case measure => simp [intOf]; omega
      · have ht : decide (zs[k + 1] ≤ zs[k]) = true := by simp; omega
        have hq := Lib.hid (risB_false hlt heq)
        clear heq
        go_wp2
        go_quiet (fail)
        go_wp2
        go_ret
        exact ⟨by rw [hq.out]; rfl, _, by first | rfl | exact (World.drewN_drewN _ _ _).symm⟩
    · have hq := Lib.hid (risB_true (zs := zs) fun j h1 => hallH.out j h1 (by omega))
      go_wp2
      go_ret
      exact ⟨by rw [hq.out]; rfl, _, rfl⟩
set_option maxHeartbeats 1000000 in
theorem l1Rising_any (zs : List Int) (A : Option Addr) (c : Nat) {l h : Nat} (lo hi : Int) (w : World) (hr : Rd w l h A zs) (hl : zs.length ≤ 9223372036854775806) :
    Calls Tryz.prog 144 #[.slice A zs.length c, .int .i64 lo, .int .i64 hi] w fun e w' => e = .returned (.bool (risinB zs lo hi)) ∧ w = w' := by
  go_enter Tryz.func144, Tryz.ntmps144
  go_wp2
  go_loop [7, 8, 11] (fun _ _ i => ∃ k : Nat, k ≤ zs.length ∧ i = .int .i64 k ∧ (∀ j (h : j < zs.length), j < k → lo ≤ zs[j] ∧ zs[j] ≤ hi) ∧ (∀ j (h : j + 1 < zs.length), j + 1 < k → zs[j] < zs[j + 1])) (fun _ _ i => zs.length - (intOf i).toNat)
  case atStart => exact ⟨0, Nat.zero_le _, rfl, fun j _ h => absurd h (by omega), fun j _ h => absurd h (by omega)⟩
  case round =>
    obtain ⟨k, hk, rfl, hall, hris⟩ := hrel
    have hallH := Lib.hid hall
    have hrisH := Lib.hid hris
    clear hall hris
    by_cases hlt : k < zs.length
    · obtain ⟨b, off, rfl, _, _, hc⟩ := hr (by omega)
      have hck := hc k hlt
      by_cases hin : lo ≤ zs[k] ∧ zs[k] ≤ hi
      · have hb : inB (zs[k]) lo hi = true := inB_t hin
        have hinH := Lib.hid hin
        clear hin
        rcases Nat.eq_zero_or_pos k with hk0 | hk0
        · subst hk0
          clear hc
          rw [Nat.add_zero] at hck
          go_wp2_with (go_at_call 104; refine (l1In_any _ _ _ _).mono ?_; rintro e w' ⟨rfl, rfl⟩)
          go_round
          case rel => exact ⟨1, by omega, by go_num, fun j h1 h2 => by
            obtain rfl : j = 0 := by omega
            exact hinH.out, fun j _ h => absurd h (by omega)⟩
          case measure => simp [intOf]; omega
        · obtain ⟨m, rfl⟩ : ∃ m, k = m + 1 := ⟨k - 1, by omega⟩
          have hcm := hc m (by omega)
          clear hc hk0
          have i0 : (0 : Int) ≤ (m : Int) := by omega
          have i1 : (m : Int) < (zs.length : Int) := by omega
          have i2 : decide ((0 : Int) < (m : Int) + 1) = true := by simp <;> omega
          by_cases heq : zs[m] < zs[m + 1]
          · have ht : decide (zs[m + 1] ≤ zs[m]) = false := by simp; omega
            have hq := Lib.hid heq
            clear heq
            go_wp2_with (go_at_call 104; refine (l1In_any _ _ _ _).mono ?_; rintro e w' ⟨rfl, rfl⟩)
            go_round
            case rel => exact ⟨m + 1 + 1, by omega, by go_num, fun j h1 h2 => by
              by_cases hj : j = m + 1
              · subst hj; exact hinH.out
              · exact hallH.out j h1 (by omega), fun j h1 h2 => by
              by_cases hj : j = m
              · subst hj; exact hq.out
              · exact hrisH.out j h1 (by omega)⟩
            case measure => simp [intOf]; omega
          · have ht : decide (zs[m + 1] ≤ zs[m]) = true := by simp; omega
            have hq := Lib.hid (risinB_false' (lo := lo) (hi := hi) hlt heq)
            clear heq
            go_wp2_with (go_at_call 104; refine (l1In_any _ _ _ _).mono ?_; rintro e w' ⟨rfl, rfl⟩)
            go_ret
            exact ⟨by rw [hq.out]; rfl, rfl⟩
      · have hb : inB (zs[k]) lo hi = false := inB_f hin
        have hq := Lib.hid (risinB_false hlt hin)
        clear hin hc
        go_wp2_with (go_at_call 104; refine (l1In_any _ _ _ _).mono ?_; rintro e w' ⟨rfl, rfl⟩)
        go_ret
        exact ⟨by rw [hq.out]; rfl, rfl⟩
    · have hq := Lib.hid (risinB_true (zs := zs) (lo := lo) (hi := hi) (fun j h1 => hallH.out j h1 (by omega)) fun j h1 => hrisH.out j h1 (by omega))
      go_wp2
      go_ret
      exact ⟨by rw [hq.out]; rfl, rfl⟩
set_option maxHeartbeats 400000 in
theorem l1Has_any (zs : List Int) (A : Option Addr) (c : Nat) {l h : Nat} (n : Int) (w : World) (hr : Rd w l h A zs) (hl : zs.length ≤ 9223372036854775807) :
    Calls Tryz.prog 96 #[.slice A zs.length c, .int .i64 n] w fun e w' => e = .returned (.bool (hasB zs n)) ∧ w = w' := by
  go_enter Tryz.func96, Tryz.ntmps96
  go_wp2
  go_loop [6, 9] (fun _ i => ∃ k : Nat, k ≤ zs.length ∧ i = .int .i64 k ∧ (∀ j (h : j < zs.length), j < k → zs[j] ≠ n)) (fun _ i => zs.length - (intOf i).toNat)
  case atStart => exact ⟨0, Nat.zero_le _, rfl, fun j _ h => absurd h (by omega)⟩
  case round =>
    obtain ⟨k, hk, rfl, hall⟩ := hrel
    have hallH := Lib.hid hall
    clear hall
    by_cases hlt : k < zs.length
    · obtain ⟨b, off, rfl, _, _, hc⟩ := hr (by omega)
      have hck := hc k hlt
      clear hc
      by_cases heq : zs[k] = n
      · have ht : (zs[k] == n) = true := by simp [heq]
        have hq := Lib.hid (hasB_at hlt heq)
        clear heq
        go_wp2
        go_ret
        exact ⟨by rw [hq.out]; rfl, rfl⟩
      · have ht : (zs[k] == n) = false := by simp [heq]
        have hq := Lib.hid heq
        clear heq
        go_wp2
        go_round
        case rel => exact ⟨k + 1, by omega, by go_num, fun j h1 h2 => by
          by_cases hj : j = k
          · subst hj; exact hq.out
          · exact hallH.out j h1 (by omega)⟩
        case measure => simp [intOf]; omega
    · have hq := Lib.hid (hasB_no (zs := zs) (n := n) fun j h1 => hallH.out j h1 (by omega))
      go_wp2
      go_ret
      exact ⟨by rw [hq.out]; rfl, rfl⟩
set_option maxHeartbeats 400000 in
theorem Index_any (zs : List Int) (A : Option Addr) (c : Nat) {l h : Nat} (n : Int) (w : World) (hr : Rd w l h A zs) (hl : zs.length ≤ 9223372036854775807) :
    Calls Tryz.prog 149 #[.slice A zs.length c, .int .i64 n] w fun e w' => e = .returned (.int .i64 (idxI zs n)) ∧ w = w' := by
  go_enter Tryz.func149, Tryz.ntmps149
  go_wp2
  go_loop [5, 8] (fun _ i => ∃ k : Nat, k ≤ zs.length ∧ i = .int .i64 k ∧ (∀ j (h : j < zs.length), j < k → zs[j] ≠ n)) (fun _ i => zs.length - (intOf i).toNat)
  case atStart => exact ⟨0, Nat.zero_le _, rfl, fun j _ h => absurd h (by omega)⟩
  case round =>
    obtain ⟨k, hk, rfl, hall⟩ := hrel
    have hallH := Lib.hid hall
    clear hall
    by_cases hlt : k < zs.length
    · obtain ⟨b, off, rfl, _, _, hc⟩ := hr (by omega)
      have hck := hc k hlt
      clear hc
      by_cases heq : zs[k] = n
      · have ht : (n == zs[k]) = true := by simp [heq]
        have hq := Lib.hid (idxI_at hlt heq hallH.out)
        clear heq
        go_wp2
        go_ret
        exact ⟨by rw [hq.out]; rfl, rfl⟩
      · have ht : (n == zs[k]) = false := by simp; exact fun e => heq e.symm
        have hq := Lib.hid heq
        clear heq
        go_wp2
        go_round
        case rel => exact ⟨k + 1, by omega, by go_num, fun j h1 h2 => by
          by_cases hj : j = k
          · subst hj; exact hq.out
          · exact hallH.out j h1 (by omega)⟩
        case measure => simp [intOf]; omega
    · have hq := Lib.hid (idxI_no (zs := zs) (n := n) fun j h1 => hallH.out j h1 (by omega))
      go_wp2
      go_ret
      exact ⟨by rw [hq.out]; rfl, rfl⟩
theorem Contains_any (zs : List Int) (A : Option Addr) (c : Nat) {l h : Nat} (n : Int) (w : World) (hr : Rd w l h A zs) (hl : zs.length ≤ 9223372036854775807) :
    Calls Tryz.prog 87 #[.slice A zs.length c, .int .i64 n] w fun e w' => e = .returned (.bool (hasB zs n)) ∧ w = w' := by
  have hq := Lib.hid (idxI_has zs n)
  go_enter Tryz.func87, Tryz.ntmps87
  go_wp2_with (go_at_call 149; refine (Index_any zs A c n _ hr hl).mono ?_; rintro e w' ⟨rfl, rfl⟩)
  go_ret
  exact ⟨by rw [hq.out]; rfl, rfl⟩

end Go.Proofs.YtjhbffndiaggmaaGreatDoor

/-
  Contracts of PageMix, of the program and of the reference. No conditions but the bound on a slice's length.
-/
namespace Go.Proofs.YtjhbffndiaggmaaGreatDoor
open Go.RowKit Go.ChangeShapes Go.WideShapes
set_option linter.unusedVariables false

def pmB (zs : List Int) : Bool := decide (zs.length ≤ 5) && allB zs 0 1000000000
def pmV (zs : List Int) : Int := if pmB zs then mixL zs else 0
theorem pmB_t {zs : List Int} (h : zs.length ≤ 5) (h1 : allB zs 0 1000000000 = true) : pmB zs = true ∧ pmV zs = mixL zs := by
  have : pmB zs = true := by simp [pmB, h, h1]
  exact ⟨this, by simp [pmV, this]⟩
theorem pmB_f {zs : List Int} (h : ¬ (zs.length ≤ 5 ∧ allB zs 0 1000000000 = true)) : pmB zs = false ∧ pmV zs = 0 := by
  have : pmB zs = false := by cases hb : pmB zs with | false => rfl | true => simp [pmB] at hb; exact absurd hb h
  exact ⟨this, by simp [pmV, this]⟩

theorem ret_ib {a b : Int} {p q : Bool} (h : a = b) (h' : p = q) : Ending.returned (.tuple #[.int .i64 a, .bool p]) = .returned (.tuple #[.int .i64 b, .bool q]) := by rw [h, h']

end Go.Proofs.YtjhbffndiaggmaaGreatDoor

/-
  Contracts of the laws' own helpers: sameInts, pIn, pSameKeys. The conditions are bounds on lengths.
-/
namespace Go.Proofs.YtjhbffndiaggmaaGreatDoor
open Go.RowKit Go.ChangeShapes Go.WideShapes
set_option linter.unusedVariables false
set_option linter.unusedSimpArgs false

set_option maxHeartbeats 2000000 in
theorem sameInts_any (xs ys : List Int) (A A' : Option Addr) (c c' : Nat) {l h l' h' : Nat} (w : World) (hx : Rd w l h A xs) (hy : Rd w l' h' A' ys) (hl : xs.length ≤ 9223372036854775807) (hl' : ys.length ≤ 9223372036854775807) :
    Calls Tryz.prog 24 #[.slice A xs.length c, .slice A' ys.length c'] w fun e w' => e = .returned (.bool (eqL xs ys)) ∧ ∃ n, w.drewN n = w' := by
  by_cases hne : xs.length = ys.length
  · go_enter Tryz.func24, Tryz.ntmps24
    have hn : ((xs.length : Int) != (ys.length : Int)) = false := by simp [hne]
    have hneH := Lib.hid hne
    have hle : xs.length ≤ ys.length := by omega
    clear hne
    go_wp2
    go_loopw [5, 13] (fun _ i wr => ∃ k : Nat, k ≤ xs.length ∧ i = .int .i64 k ∧ (∀ j (h1 : j < xs.length) (h2 : j < ys.length), j < k → xs[j] = ys[j]) ∧ ∃ n, w.drewN n = wr) (fun _ i _ => xs.length - (intOf i).toNat)
    case atStart => exact ⟨0, Nat.zero_le _, rfl, fun j _ _ h => absurd h (by omega), 0, rfl⟩
    case round =>
      obtain ⟨k, hk, rfl, hall, n, rfl⟩ := hrel
      have hallH := Lib.hid hall
      clear hall
      by_cases hlt : k < xs.length
      · obtain ⟨b, off, rfl, _, _, hc⟩ := hx (by omega)
        obtain ⟨b', off', rfl, _, _, hc'⟩ := hy (by omega)
        have hlt' : k < ys.length := by omega
        have hck := hc k hlt
        have hck' := hc' k hlt'
        clear hc hc'
        by_cases heq : xs[k] = ys[k]
        · have ht : (xs[k] != ys[k]) = false := by simp [heq]
          have hq := Lib.hid heq
          clear heq
          go_wp2
          go_quiet (fail)
          go_wp2
          go_roundw
          case rel => exact ⟨k + 1, by omega, by go_num, fun j h1 h2 h3 => by
            by_cases hj : j = k
            · subst hj; exact hq.out
            · exact hallH.out j h1 h2 (by omega), _, by first | rfl | exact (World.drewN_drewN _ _ _).symm⟩
          case measure => simp [intOf]; omega
        · have ht : (xs[k] != ys[k]) = true := by simp [heq]
          have hq := Lib.hid (eqL_at hlt hlt' heq)
          clear heq
          go_wp2
          go_quiet (fail)
          go_wp2
          go_ret
          exact ⟨by rw [hq.out]; rfl, _, by first | rfl | exact (World.drewN_drewN _ _ _).symm⟩
      · have hq := Lib.hid (eqL_take hneH.out fun j h1 h2 => hallH.out j h1 h2 (by omega))
        go_wp2
        go_ret
        exact ⟨by rw [hq.out]; rfl, _, rfl⟩
  · have hq := Lib.hid (eqL_len hne)
    have hn : ((xs.length : Int) != (ys.length : Int)) = true := by simp; omega
    clear hne
    go_enter Tryz.func24, Tryz.ntmps24
    go_wp2
    go_ret
    exact ⟨by rw [hq.out]; rfl, 0, rfl⟩
theorem sameInts_v (xs ys : List Int) (A A' : Option Addr) (c c' : Nat) {l h l' h' : Nat} (w : World) (hx : Rd w l h A xs) (hy : Rd w l' h' A' ys) (hl : xs.length ≤ 9223372036854775807) (hl' : ys.length ≤ 9223372036854775807) (v : Bool) (hv : eqL xs ys = v) :
    Calls Tryz.prog 24 #[.slice A xs.length c, .slice A' ys.length c'] w fun e w' => e = .returned (.bool v) ∧ Below w.heap.size w w' :=
  (sameInts_any xs ys A A' c c' w hx hy hl hl').mono fun e w' ⟨he, n, hw⟩ => ⟨hv ▸ he, hw ▸ below_refl_drewN n⟩
theorem sameInts_t (xs : List Int) (A A' : Option Addr) (k k' c c' : Nat) {l h l' h' : Nat} (w : World) (hk : k = xs.length) (hk' : k' = xs.length) (hx : Rd w l h A xs) (hy : Rd w l' h' A' xs) (hl : xs.length ≤ 1048576) :
    Calls Tryz.prog 24 #[.slice A k c, .slice A' k' c'] w fun e w' => e = .returned (.bool true) ∧ Below w.heap.size w w' := by
  subst hk hk'
  exact sameInts_v xs xs A A' c c' w hx hy (by omega) (by omega) true (eqL_self xs)
set_option maxHeartbeats 2000000 in
theorem pIn_any (zs : List Int) (A : Option Addr) (c : Nat) {l h : Nat} (n : Int) (w : World) (hr : Rd w l h A zs) (hl : zs.length ≤ 9223372036854775807) :
    Calls Tryz.prog 18 #[.slice A zs.length c, .int .i64 n] w fun e w' => e = .returned (.bool (hasB zs n)) ∧ w = w' := by
  go_enter Tryz.func18, Tryz.ntmps18
  go_wp2
  go_loop [6, 9] (fun _ i => ∃ k : Nat, k ≤ zs.length ∧ i = .int .i64 k ∧ (∀ j (h : j < zs.length), j < k → zs[j] ≠ n)) (fun _ i => zs.length - (intOf i).toNat)
  case atStart => exact ⟨0, Nat.zero_le _, rfl, fun j _ h => absurd h (by omega)⟩
  case round =>
    obtain ⟨k, hk, rfl, hall⟩ := hrel
    have hallH := Lib.hid hall
    clear hall
    by_cases hlt : k < zs.length
    · obtain ⟨b, off, rfl, _, _, hc⟩ := hr (by omega)
      have hck := hc k hlt
      clear hc
      by_cases heq : zs[k] = n
      · have ht : (zs[k] == n) = true := by simp [heq]
        have hq := Lib.hid (hasB_at hlt heq)
        clear heq
        go_wp2
        go_ret
        exact ⟨by rw [hq.out]; rfl, rfl⟩
      · have ht : (zs[k] == n) = false := by simp [heq]
        have hq := Lib.hid heq
        clear heq
        go_wp2
        go_round
        case rel => exact ⟨k + 1, by omega, by go_num, fun j h1 h2 => by
          by_cases hj : j = k
          · subst hj; exact hq.out
          · exact hallH.out j h1 (by omega)⟩
        case measure => simp [intOf]; omega
    · have hq := Lib.hid (hasB_no (zs := zs) (n := n) fun j h1 => hallH.out j h1 (by omega))
      go_wp2
      go_ret
      exact ⟨by rw [hq.out]; rfl, rfl⟩
theorem pIn_v (zs : List Int) (A : Option Addr) (k c : Nat) {l h : Nat} (n : Int) (w : World) (hk : k = zs.length) (hr : Rd w l h A zs) (hl : zs.length ≤ 1048576) (v : Bool) (hv : hasB zs n = v) :
    Calls Tryz.prog 18 #[.slice A k c, .int .i64 n] w fun e w' => e = .returned (.bool v) ∧ w = w' := by
  subst hk hv
  exact pIn_any zs A c n w hr (by omega)
set_option maxHeartbeats 2000000 in
theorem pSameKeys_t (key pages : Int) (xs : List Int) (A A' : Option Addr) (k k' c c' : Nat) {l h l' h' : Nat} (w : World) (hk : k = xs.length) (hk' : k' = xs.length) (hx : Rd w l h A xs) (hy : Rd w l' h' A' xs) (hl : xs.length ≤ 1048576) :
    Calls Tryz.prog 14 #[.agg #[.int .i64 key, .int .i64 pages, .slice A k c], .agg #[.int .i64 key, .int .i64 pages, .slice A' k' c']] w fun e w' => e = .returned (.bool true) ∧ Below w.heap.size w w' := by
  have hkH := Lib.hid hk
  have hkH' := Lib.hid hk'
  have hB0 := ((Below.refl w.heap.size w).alloc (Nat.le_refl _) (.cells #[.int .i64 key, .int .i64 pages, .slice A k c] 26)).alloc (by simp) (.cells #[.int .i64 key, .int .i64 pages, .slice A' k' c'] 26)
  have hx2 := (hx.alloc (.cells #[.int .i64 key, .int .i64 pages, .slice A k c] 26)).alloc (.cells #[.int .i64 key, .int .i64 pages, .slice A' k' c'] 26)
  have hy2 := (hy.alloc (.cells #[.int .i64 key, .int .i64 pages, .slice A k c] 26)).alloc (.cells #[.int .i64 key, .int .i64 pages, .slice A' k' c'] 26)
  clear hk hk'
  go_enter Tryz.func14, Tryz.ntmps14
  go_wp2_with fail
  (with_reducible refine (sameInts_t xs A A' k k' c c' _ hkH.out hkH'.out hx2 hy2 hl).mono ?_)
  rintro e w' ⟨rfl, hb⟩
  have hbH := Lib.hid (hB0.trans (hb.mono (by simp; omega)))
  clear hb hB0
  go_wp2_with fail
  go_ret
  exact ⟨rfl, hbH.out⟩
end Go.Proofs.YtjhbffndiaggmaaGreatDoor

/-
  Contracts of the tests on intervals at a known answer. No conditions.
-/
namespace Go.Proofs.YtjhbffndiaggmaaGreatDoor
open Go.RowKit Go.ChangeShapes Go.WideShapes
set_option linter.unusedVariables false

theorem within_q (n lo hi : Int) (w : World) (k : Nat) (v : Bool) (hv : inB n lo hi = v) :
    Calls Tryz.prog 79 #[.int .i64 n, .int .i64 lo, .int .i64 hi] (w.drewN k) fun e w' => e = .returned (.bool v) ∧ ∃ m, w' = w.drewN m :=
  (within_any n lo hi (w.drewN k)).mono fun e w' ⟨he, hw⟩ => ⟨hv ▸ he, k, hw.symm⟩
theorem within_u (n lo hi : Int) (w : World) (v : Bool) (hv : inB n lo hi = v) :
    Calls Tryz.prog 79 #[.int .i64 n, .int .i64 lo, .int .i64 hi] w fun e w' => e = .returned (.bool v) ∧ w = w' :=
  (within_any n lo hi w).mono fun e w' ⟨he, hw⟩ => ⟨hv ▸ he, hw⟩
theorem l1In_q (n lo hi : Int) (w : World) (k : Nat) (v : Bool) (hv : inB n lo hi = v) :
    Calls Tryz.prog 104 #[.int .i64 n, .int .i64 lo, .int .i64 hi] (w.drewN k) fun e w' => e = .returned (.bool v) ∧ ∃ m, w' = w.drewN m :=
  (l1In_any n lo hi (w.drewN k)).mono fun e w' ⟨he, hw⟩ => ⟨hv ▸ he, k, hw.symm⟩
theorem l1In_u (n lo hi : Int) (w : World) (v : Bool) (hv : inB n lo hi = v) :
    Calls Tryz.prog 104 #[.int .i64 n, .int .i64 lo, .int .i64 hi] w fun e w' => e = .returned (.bool v) ∧ w = w' :=
  (l1In_any n lo hi w).mono fun e w' ⟨he, hw⟩ => ⟨hv ▸ he, hw⟩
end Go.Proofs.YtjhbffndiaggmaaGreatDoor
