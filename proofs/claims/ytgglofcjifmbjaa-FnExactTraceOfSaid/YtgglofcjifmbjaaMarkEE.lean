/-
  Contracts of the statements' own marks on arguments that are logs or slices of logs. The conditions are bounds on lengths.
-/
import Derived.Test.YtgglofcjifmbjaaMarkE
import Derived.Test.YtgglofcjifmbjaaMemEE
namespace Go.Proofs.Ytgglofcjifmbjaa
open Go.RowKit Go.ChangeShapes Go.WideShapes
set_option linter.unusedVariables false
set_option linter.unusedSimpArgs false

theorem markEntryS_z (es : List Ent) (A : Option Addr) (c : Nat) (k0 : Int) {lo hi : Nat} (w : World) (hown : OwnE w lo hi (.slice A es.length c) es) (h0 : 0 ≤ k0) (h1 : k0 + 3 * (eszL es : Int) ≤ 1000000000000) :
    Calls Try.prog 18 #[.slice A es.length c, .int .i64 k0] w fun e w' => ∃ r, e = .returned (.int .i64 r) ∧ k0 ≤ r ∧ r ≤ k0 + 3 * (eszL es : Int) ∧ Fr lo hi w w' ∧ w'.heap.size = w.heap.size := by
  have hs := mkSum_le es es.length (Nat.le_refl _)
  exact (markEntryS_any es A c k0 w hown h0 (by omega)).mono fun e w' ⟨he, _, hf, hz⟩ => ⟨_, he, by omega, by omega, hf, hz⟩
theorem markEntryS_r (es : List Ent) (A : Option Addr) (c : Nat) (k0 : Int) {lo hi : Nat} (w : World) (hown : OwnE w lo hi (.slice A es.length c) es) (h0 : 0 ≤ k0) (h1 : k0 + 3 * (eszL es : Int) ≤ 1000000000000) :
    Calls Try.prog 18 #[.slice A es.length c, .int .i64 k0] w fun e w' => ∃ r, e = .returned (.int .i64 r) ∧ k0 ≤ r ∧ r ≤ k0 + 3 * (eszL es : Int) ∧ Fr lo hi w w' :=
  (markEntryS_z es A c k0 w hown h0 h1).mono fun e w' ⟨r, he, h1, h2, hf, hz⟩ => ⟨r, he, h1, h2, hf⟩

set_option maxHeartbeats 2000000 in
theorem markEntrySS_r (es : List (List Ent)) (A : Option Addr) (c : Nat) (k0 : Int) {lo hi : Nat} (w : World) (hown : OwnEE w lo hi (.slice A es.length c) es) (h0 : 0 ≤ k0) (h1 : k0 + 3 * (esszL es : Int) ≤ 1000000000000) :
    Calls Try.prog 27 #[.slice A es.length c, .int .i64 k0] w fun e w' => ∃ r, e = .returned (.int .i64 r) ∧ k0 ≤ r ∧ r ≤ k0 + 3 * (esszL es : Int) ∧ Fr lo hi w w' := by
  obtain ⟨g, cap, he, c1, c2, cur, U, P, hg, a1, a2, a3, hsz, hm, hj, hr⟩ := hown
  injection he with e1 e2 e3
  subst e1 e3
  have up := mono_up hm
  have hup0 := up 0 es.length (by omega) (Nat.le_refl _)
  have hel := essz_len es
  have hee := essz_eq es
  have hcell : ∀ j (hj' : j < es.length), w.cell? ⟨g, j, none⟩ = some (U j) := fun j hj' => (cell_of_row w g j cur _ _ hg).trans (hj j hj' hj').1
  have hcellH := Lib.hid hcell
  have hjH := Lib.hid hj
  have upH := Lib.hid up
  have hmH := Lib.hid hm
  have hglt : g < w.heap.size := (Array.getElem?_eq_some_iff.1 hg).1
  clear hcell hj up hm hr hg e2
  go_enter Try.func27, Try.ntmps27
  go_wp2
  go_loopw [1, 5] (fun q i wr => ∃ (k : Nat) (r : Int), k ≤ es.length ∧ i = .int .i64 k ∧ q = .int .i64 r ∧ k0 ≤ r ∧ r ≤ k0 + 3 * (ppsum es k : Int) ∧ Fr lo hi w wr ∧ wr.heap.size = w.heap.size ∧ wr.heap[g]? = w.heap[g]? ∧ (∀ j (hj : j < es.length), k ≤ j → OwnE wr (P j) (P (j + 1)) (U j) es[j])) (fun _ i _ => es.length - (intOf i).toNat)
  case atStart => exact ⟨0, k0, Nat.zero_le _, rfl, rfl, by omega, by rw [ppsum_zero]; omega, Fr.refl _ _ _, rfl, rfl, fun j hj _ => (hjH.out j hj hj).2⟩
  case round =>
    obtain ⟨k, r, hk, rfl, rfl, hr1, hr2, hf, hs, hgw, hall⟩ := hrel
    by_cases hlt : k < es.length
    · have how := hall k hlt (Nat.le_refl _)
      obtain ⟨A1, d1, eU, _, _⟩ := how.rd
      have x0 : wr.cell? ⟨g, k, none⟩ = some (.slice A1 es[k].length d1) := (World.cell?_of_block hgw).trans ((hcellH.out k hlt).trans (by rw [eU]))
      rw [eU] at how
      have q1 := upH.out 0 k (by omega) (by omega)
      have q2 := upH.out (k + 1) es.length (by omega) (Nat.le_refl _)
      have q3 := hmH.out k hlt
      have hp1 := ppsum_succ es k hlt
      have hp2 := ppsum_le es (k + 1)
      have hallH := Lib.hid hall
      have hfH := Lib.hid hf
      have hsH := Lib.hid hs
      have hgwH := Lib.hid hgw
      clear hall hf hs hgw
      go_wp2_with fail
      (with_reducible refine (markEntryS_z es[k] A1 d1 r _ how (by omega) (by omega)).mono ?_)
      rintro e w2 ⟨r2, rfl, b1, b2, fr, hz⟩
      have hs2 : Hid (w2.heap.size = w.heap.size) := Lib.hid (hz.trans hsH.out)
      go_wp2
      go_roundw
      case rel => exact ⟨k + 1, r2, by omega, by go_num, rfl, by omega, by omega, hfH.out.trans (fr.mono (by omega) (by omega)), hs2.out, (fr.block g (by rw [hsH.out]; exact hglt) (by omega)).trans hgwH.out, fun j hj hkj => by
        have hq1 := upH.out (k + 1) j (by omega) (by omega)
        have ho := hallH.out j hj (by omega)
        exact ho.fr fr (by omega)⟩
      case measure => simp [intOf]; omega
    · obtain rfl : k = es.length := by omega
      go_wp2
      go_ret
      exact ⟨_, rfl, by omega, by omega, hf⟩
end Go.Proofs.Ytgglofcjifmbjaa
