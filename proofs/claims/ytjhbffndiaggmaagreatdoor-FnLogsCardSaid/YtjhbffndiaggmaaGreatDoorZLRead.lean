/-
  Contracts of the program's reading of numbers. The conditions are a bound on a length, and the library's variables.
-/
import Derived.Test.YtjhbffndiaggmaaGreatDoorZLDoorP
import Derived.Test.YtjhbffndiaggmaaGreatDoorShelfR
import Derived.Test.YtjhbffndiaggmaaGreatDoorPureR
namespace Go.Proofs.YtjhbffndiaggmaaGreatDoor
open Go.RowKit Go.ChangeShapes Go.WideShapes
set_option linter.unusedVariables false
set_option linter.unusedSimpArgs false

/-- a number in its one decimal form -/
def rnO (l : List UInt8) : Option Int :=
  match Lib.atoiAll l with
  | .ok v => if 0 ≤ v ∧ numS v = l then some v else none
  | _ => none
set_option maxRecDepth 100000 in
theorem readNumber_err (l : List UInt8) (w : World) (hl : l.length ≤ 1048577) (hS : Sen w) (h : ∀ v, Lib.atoiAll l ≠ .ok v) :
    Calls Tryz.prog 83 #[.string (str l)] w fun e w' => e = .returned (.tuple #[.int .i64 0, .bool false]) ∧ Below w.heap.size w w' := by
  have hc : Calls Tryz.prog 148 #[.string (str l)] w fun e w' => ∃ v N, e = .returned (.tuple #[.int .i64 v, .iface 191 (.pointer (some ⟨N, 0, none⟩))]) ∧ Below w.heap.size w w' := by
    obtain ⟨te, pe, hv⟩ := hS.syn
    obtain ⟨te', pe', hv'⟩ := hS.rng
    cases hx : Lib.atoiAll l
    · exact absurd hx (h _)
    · refine (Tryz.strconv_Atoi_syntax (str l) (by rw [str_size]; omega) (by rw [str_toList]; exact hx) _ w hv (.inr ⟨te, pe, rfl⟩)).mono ?_
      rintro e w' ⟨N, h1, _, _, h2⟩
      exact ⟨_, N, h1, h2⟩
    · refine (Tryz.strconv_Atoi_range (str l) (by rw [str_size]; omega) (by rw [str_toList]; exact hx) _ w hv' (.inr ⟨te', pe', rfl⟩)).mono ?_
      rintro e w' ⟨N, h1, _, _, h2⟩
      exact ⟨_, N, h1, h2⟩
  go_enter Tryz.func83, Tryz.ntmps83
  go_wp2_with fail
  (with_reducible refine hc.mono ?_)
  rintro e w1 ⟨v, N, rfl, hb1⟩
  clear hc
  go_wp2_with fail
  go_ret2
  exact ⟨rfl, hb1⟩
theorem atoi_ok (l : List UInt8) (w : World) (hl : l.length ≤ 1048577) (v : Int) (h : Lib.atoiAll l = .ok v) :
    Calls Tryz.prog 148 #[.string (str l)] w fun e w' => e = .returned (.tuple #[.int .i64 v, .nilIface]) ∧ Below w.heap.size w w' := by
  refine (Tryz.strconv_Atoi_ok (str l) (by rw [str_size]; omega) v (by rw [str_toList]; exact h) w).mono ?_
  rintro e w' ⟨h1, h2⟩
  refine ⟨h1, ?_⟩
  rcases h2 with rfl | ⟨t, rfl⟩
  · exact Below.refl _ _
  · exact Lib.bytesWorld_below w _ _
theorem rnO_some {l : List UInt8} {v : Int} (h : rnO l = some v) : Lib.atoiAll l = .ok v ∧ 0 ≤ v ∧ numS v = l := by
  unfold rnO at h
  split at h
  · rename_i u hu
    split at h
    · rename_i h2
      obtain rfl := Option.some.inj h
      exact ⟨hu, h2.1, h2.2⟩
    · cases h
  · cases h
set_option maxRecDepth 100000 in
theorem readNumber_some (l : List UInt8) (w : World) (hl : l.length ≤ 1048577) (hS : Sen w) (v : Int) (h : rnO l = some v) :
    Calls Tryz.prog 83 #[.string (str l)] w fun e w' => e = .returned (.tuple #[.int .i64 v, .bool true]) ∧ Below w.heap.size w w' := by
  obtain ⟨h1, h0, rfl⟩ := rnO_some h
  have hb := (Lib.atoiAll_bounds h1).2
  have h1H := Lib.hid h1
  have hd : decide (v < 0) = false := by simpa using h0
  clear h h1
  go_enter Tryz.func83, Tryz.ntmps83
  go_wp2_with fail
  (with_reducible refine (atoi_ok _ _ hl v h1H.out).mono ?_)
  rintro e w1 ⟨rfl, hb1⟩
  go_wp2_with fail
  (with_reducible refine (Itoa_n v _ h0 hb (hS.pow.st hb1)).mono ?_)
  rintro e w2 ⟨rfl, hb2⟩
  have hB := hb1.trans (hb2.mono hb1.size)
  go_wp2_with fail
  go_ret2
  exact ⟨rfl, hB⟩
set_option maxRecDepth 100000 in
theorem readNumber_none (l : List UInt8) (w : World) (hl : l.length ≤ 1048577) (hS : Sen w) (h : rnO l = none) :
    Calls Tryz.prog 83 #[.string (str l)] w fun e w' => e = .returned (.tuple #[.int .i64 0, .bool false]) ∧ Below w.heap.size w w' := by
  by_cases he : ∃ v, Lib.atoiAll l = .ok v
  · obtain ⟨v, hv⟩ := he
    have hb := (Lib.atoiAll_bounds hv).2
    have hn : ¬ (0 ≤ v ∧ numS v = l) := fun hx => by
      unfold rnO at h
      rw [hv] at h
      simp [hx] at h
    have hvH := Lib.hid hv
    clear h hv
    by_cases h0 : 0 ≤ v
    · have hne : ¬ str (numS v) = str l := fun e => hn ⟨h0, str_inj e⟩
      have hne2 : ((str (numS v)).toList == (str l).toList) = false := by
        rw [beq_eq_false_iff_ne]
        intro e
        rw [ByteArray.toList_eq, ByteArray.toList_eq, str_toList, str_toList] at e
        exact hn ⟨h0, e⟩
      have hd : decide (v < 0) = false := by simpa using h0
      clear hn
      go_enter Tryz.func83, Tryz.ntmps83
      go_wp2_with fail
      (with_reducible refine (atoi_ok _ _ hl v hvH.out).mono ?_)
      rintro e w1 ⟨rfl, hb1⟩
      go_wp2_with fail
      (with_reducible refine (Itoa_n v _ h0 hb (hS.pow.st hb1)).mono ?_)
      rintro e w2 ⟨rfl, hb2⟩
      have hB := hb1.trans (hb2.mono hb1.size)
      go_wp2_with fail
      go_ret2
      exact ⟨rfl, hB⟩
    · have h1 : v < 0 := by omega
      clear hn h0
      go_enter Tryz.func83, Tryz.ntmps83
      go_wp2_with fail
      (with_reducible refine (atoi_ok _ _ hl v hvH.out).mono ?_)
      rintro e w1 ⟨rfl, hb1⟩
      go_wp2_with fail
      go_ret2
      exact ⟨rfl, hb1⟩
  · exact readNumber_err l w hl hS (fun v hv => he ⟨v, hv⟩)
end Go.Proofs.YtjhbffndiaggmaaGreatDoor
