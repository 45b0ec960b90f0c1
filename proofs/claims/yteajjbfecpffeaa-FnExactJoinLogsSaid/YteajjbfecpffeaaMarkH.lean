/-
  Contracts of the statements' own marks on results that are logs: laid, and looked for. The conditions are bounds on lengths.
-/
import Derived.Test.YteajjbfecpffeaaMarkE
namespace Go.Proofs.Yteajjbfecpffeaa
open Go.RowKit Go.ChangeShapes Go.WideShapes
set_option linter.unusedVariables false
set_option linter.unusedSimpArgs false

theorem mkL_len (es : List Ent) (k0 : Int) : (mkL es k0).length = es.length := mkTo_len _ _ _
theorem mkL_at (es : List Ent) (k0 : Int) (k : Nat) (h : k < es.length) (h' : k < (mkL es k0).length) : (mkL es k0)[k] = mkEnt es[k] (k0 + mkSum es k) := by simp [mkL, mkTo, h]

theorem markEntryS_b (es : List Ent) (A : Option Addr) (c : Nat) (k0 : Int) {lo hi : Nat} (w : World) (hown : OwnE w lo hi (.slice A es.length c) es) (h0 : 0 ≤ k0) (h1 : k0 + 3 * (eszL es : Int) ≤ 1000000000000) :
    Calls Try.prog 11 #[.slice A es.length c, .int .i64 k0] w fun e w' => e = .returned (.int .i64 (k0 + (mkSum es es.length : Int))) ∧ OwnE w' lo hi (.slice A es.length c) (mkL es k0) ∧ Fr lo hi w w' :=
  (markEntryS_any es A c k0 w hown h0 (by omega)).mono fun e w' ⟨he, h, hf, hz⟩ => ⟨he, h, hf⟩
set_option maxHeartbeats 2000000 in
theorem heldEntryS_b (es : List Ent) (A : Option Addr) (c : Nat) (k0 : Int) {lo hi : Nat} (w : World) (hr0 : RdE w lo hi A (mkL es k0)) (h0 : 0 ≤ k0) (h1 : k0 + 3 * (eszL es : Int) ≤ 1000000000000) :
    Calls Try.prog 12 #[.slice A es.length c, .int .i64 k0] w fun e w' => e = .returned (.int .i64 (k0 + (mkSum es es.length : Int))) ∧ Below w.heap.size w w' := by
  have hr := hr0.std
  clear hr0
  have hel := esz_len es
  go_enter Try.func12, Try.ntmps12
  go_wp2
  go_loopw [1, 5] (fun q i wr => ∃ k : Nat, k ≤ es.length ∧ i = .int .i64 k ∧ q = .int .i64 (k0 + (mkSum es k : Int)) ∧ Below w.heap.size w wr) (fun _ i _ => es.length - (intOf i).toNat)
  case atStart => exact ⟨0, Nat.zero_le _, rfl, by rw [mkSum_zero]; simp, Below.refl _ _⟩
  case round =>
    obtain ⟨k, hk, rfl, rfl, hbr⟩ := hrel
    by_cases hlt : k < es.length
    · obtain ⟨b, off, rfl, _, _, hc⟩ := (hr.below hbr (Nat.le_refl _)) (by rw [mkL_len]; omega)
      obtain ⟨A1, c1, A2, c2, x0, x1, x2, x3, x4, r1, r2⟩ := hc k (by rw [mkL_len]; exact hlt)
      rw [mkL_at es k0 k hlt] at x0 x1 x2 x3 x4 r1 r2
      simp only [mkEnt, fill_length] at x0 x1 x2 x3 x4 r1 r2
      have hsum := mkSum_le es k hk
      have hsum2 := mkSum_le es (k + 1) hlt
      have hsum3 := mkSum_succ es k hlt
      have hw : mkW es[k] = 3 + es[k].seen.length + es[k].shown.length := rfl
      rw [hw] at hsum3
      have hszr := hbr.size
      have hn0 : (0 : Int) ≤ k0 + (mkSum es k : Int) := by omega
      have hk1 : Hid (k0 + ((mkSum es (k + 1) : Nat) : Int) = k0 + ((mkSum es k : Nat) : Int) + 1 + 1 + 1 + (es[k].seen.length : Int) + (es[k].shown.length : Int)) := Lib.hid (by rw [hsum3]; omega)
      have hb0 : k0 + (mkSum es k : Int) + 3 + (es[k].seen.length : Int) + (es[k].shown.length : Int) ≤ 1000000000000 := by omega
      clear hc hsum hsum2 hsum3 hw
      generalize k0 + (mkSum es k : Int) = K at *
      generalize es[k] = ek at *
      have hn1 : ¬ K + 1 + 1 + 1 + (ek.seen.length : Int) < 0 := by omega
      have hn2 : ¬ K + 1 + 1 + 1 + (ek.seen.length : Int) + (ek.shown.length : Int) < 0 := by omega
      go_wp2_with (first
        | (go_at_call 54; ((with_reducible refine (heldIntS_any ek.seen.length A1 c1 (K + 1 + 1 + 1) _ r1 (by omega) (by omega)).mono ?_); rintro e w' ⟨rfl, rfl⟩))
        | (go_at_call 54; ((with_reducible refine (heldIntS_any ek.shown.length A2 c2 (K + 1 + 1 + 1 + (ek.seen.length : Int)) _ r2 (by omega) (by omega)).mono ?_); rintro e w' ⟨rfl, rfl⟩)))
      go_roundw
      case rel => exact ⟨k + 1, by omega, by go_num, by rw [hk1.out], hbr⟩
      case measure => simp [intOf]; omega
    · obtain rfl : k = es.length := by omega
      go_wp2
      go_ret
      exact ⟨rfl, hbr⟩
end Go.Proofs.Yteajjbfecpffeaa
