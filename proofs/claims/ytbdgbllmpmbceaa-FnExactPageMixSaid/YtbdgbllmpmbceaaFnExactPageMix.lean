/-
  The program's PageMix returns what the reference's returns, for all arguments. No conditions.
-/
import Derived.Test.YtbdgbllmpmbceaaShut
import Derived.Test.YtbdgbllmpmbceaaInts
import Derived.Test.YtbdgbllmpmbceaaPageMix
namespace Go.Proofs.Ytbdgbllmpmbceaa.fnExactPageMix
open Go.ChangeShapes Go.WideShapes Go.ChangeAt Go.RowKit
set_option linter.unusedVariables false
set_option profiler true

set_option maxHeartbeats 400000 in
theorem walk (zs : List Int) (A : Option Addr) (c : Nat) (w : World) (hr : Rd w 0 w.heap.size A zs) (hl : zs.length ≤ 9223372036854775807) :
    Calls Try.prog 4 #[.slice A zs.length c] w fun e w' => e = .returned (.bool true) ∧ Below w.heap.size w w' := by
  by_cases hbig : zs.length ≤ 1048576
  · go_enter Try.func4, Try.ntmps4
    go_wp2_with fail
    refine (toIntS_any zs A c _ hr (by omega)).mono ?_
    rintro e w1 ⟨v1, rfl, hown1, hb1⟩
    obtain ⟨A1, c1, rfl, hr1, -⟩ := hown1.rd
    clear hown1
    go_wp2_with fail
    refine (sPageMix_any zs A1 c1 _ (hr1.mono (Nat.zero_le _) (Nat.le_refl _)) hl).mono ?_
    rintro e w2 ⟨rfl, hb2⟩
    have hB2 := hb1.trans (hb2.mono hb1.size)
    clear hb1 hb2 hr1
    go_wp2_with fail
    refine (toIntS_any zs A c _ (hr.below hB2 (Nat.le_refl _) |>.mono (Nat.le_refl _) hB2.size) (by omega)).mono ?_
    rintro e w3 ⟨v3, rfl, hown3, hb3⟩
    obtain ⟨A3, c3, rfl, hr3, -⟩ := hown3.rd
    clear hown3
    go_wp2_with fail
    refine (iPageMix_any zs A3 c3 _ (hr3.mono (Nat.zero_le _) (Nat.le_refl _)) hl).mono ?_
    rintro e w4 ⟨rfl, hb4⟩
    have hB4 := (hB2.trans (hb3.mono hB2.size)).trans (hb4.mono (Nat.le_trans hB2.size hb3.size))
    have hr4 := hr3.below hb4 (Nat.le_refl _)
    have s4 := hb4.size
    clear hB2 hb3 hb4 hr3
    go_wp2_with fail
    refine (toIntS_any zs A c _ (hr.below hB4 (Nat.le_refl _) |>.mono (Nat.le_refl _) hB4.size) (by omega)).mono ?_
    rintro e w5 ⟨v5, rfl, hown5, hb5⟩
    obtain ⟨A5, c5, rfl, hr5, -⟩ := hown5.rd
    clear hown5
    go_wp2_with fail
    refine (eqIntS_any zs zs A3 A5 c3 c5 _ _ _ _ _ (hr4.below hb5 (by omega)) hr5 hl hl).mono ?_
    rintro e w6 ⟨rfl, n, rfl⟩
    have hq := eqL_self zs
    have hB5 := hB4.trans (hb5.mono hB4.size)
    clear hr5 hr4 hB4 hb5
    go_wp2
    go_ret
    exact ⟨rfl, below_drewN hB5 n⟩
  · go_enter Try.func4, Try.ntmps4
    go_wp2
    go_ret
    exact ⟨rfl, Below.refl _ _⟩

set_option maxRecDepth 100000 in
theorem lifted (os : Os) (started : os.Started) (H : Type) (enc : TypeId × Value → H) :
    ReturnsInHanded {} Try.checked os 4 .any (Rows.fnExactPageMixSpec.pre6 enc Try.prog Try.f4 Rows.fnExactPageMixRow.domain false) (Rows.fnExactPageMixSpec.post enc Try.prog Try.f4 false true false false) := by
  refine returnsInHanded_of_change (C := Try.checked) ownGo started (by kernel_rfl) Try.func4
    (ChangeSpec.witness6 (enc := enc) (C := Try.checked) false ⟨#[], #[(.slice none 0 0)], []⟩ 8 (by kernel_rfl) (by kernel_rfl) (by kernel_rfl) (by kernel_rfl)) ?_
  intro W base args ds gs before hval0 hW hcnd _
  have hval : ∀ (j : Nat) t v, Try.f4.params[j]? = some t → args[j]? = some v → Value.okWide Try.prog W .any base t v := hval0
  have hW' := hW
  have hlt : ∀ p ∈ before, p.block < W.heap.size := fun p hp => hW.lt p hp
  obtain ⟨p, q, hA0, hV, rfl, hfz, hnd⟩ := hW
  have hA : DataW.TrodAll enc Try.prog W 0 (fun _ => true) true Try.f4.params.toList args.toList ds p := hA0
  rw [Try.params4] at hA hval
  obtain ⟨v0, vs0, d0, ds0, p0, q0, hargs, rfl, rfl, h0, r0⟩ := trodAll_cons hA
  obtain ⟨rfl, rfl, rfl⟩ := trodAll_nil r0
  obtain rfl : args = #[v0] := by cases args; simp_all
  obtain ⟨rfl, rfl⟩ := trodVars_none hV
  clear hA0 hval0
  simp only [List.append_nil] at hW' hlt
  obtain ⟨A, c, zs, rfl, hr, hl⟩ := argInts (hval 0 25 v0 rfl rfl) h0 (fun x hx => hlt x (by simp [hx]))
  refine (walk zs A c W hr hl).mono fun e W' ⟨he, hb⟩ => ?_
  subst he
  exact ⟨_, rfl, post_true laidOut (fun t ht => by rw [Try.params4] at ht; revert t; decide +kernel) hW' rfl rfl rfl rfl rfl Try.underlying4 hb⟩

theorem over : Rows.fnExactPageMixRow.holds Try.pinned (OpenSpec.ofChange Rows.fnExactPageMixSpec) :=
  OpenClaim.holds_of_wide 4 Try.f4 rfl rfl rfl rfl rfl rfl rfl ⟨rfl, rfl, rfl, rfl, rfl⟩ rfl rfl rfl rfl rfl (by kernel_rfl) Try.func4 (by kernel_rfl)
    (of_decide_eq_true (by kernel_rfl)) (by unfold Func.isWrapper; first | (rw [if_pos (by decide +kernel)]; kernel_rfl) | (rw [if_neg (by decide +kernel)]; exact ⟨rfl, rfl⟩))
    (fun os started H enc _ => lifted os started H enc)

theorem proved : Rows.FnExactPageMixSaid :=
  over
#print axioms proved

end Go.Proofs.Ytbdgbllmpmbceaa.fnExactPageMix
