/-
  The program's IsEntry returns what the reference's returns, for all arguments. No conditions.
-/
import Derived.Test.YtbdgbllmpmbceaaShut
import Derived.Test.YtbdgbllmpmbceaaWIsEntry
namespace Go.Proofs.Ytbdgbllmpmbceaa.fnExactIsEntry
open Go.ChangeShapes Go.WideShapes Go.ChangeAt Go.RowKit
set_option linter.unusedVariables false

set_option maxRecDepth 100000 in
theorem lifted (os : Os) (started : os.Started) (H : Type) (enc : TypeId × Value → H) :
    ReturnsInHanded {} Try.checked os 6 .any (Rows.fnExactIsEntrySpec.pre6 enc Try.prog Try.f6 Rows.fnExactIsEntryRow.domain false) (Rows.fnExactIsEntrySpec.post enc Try.prog Try.f6 false true false false) := by
  refine returnsInHanded_of_change (C := Try.checked) ownGo started (by kernel_rfl) Try.func6
    (ChangeSpec.witness6 (enc := enc) (C := Try.checked) false ⟨#[], #[.agg #[.int .i64 0, .int .i64 0, .int .i64 0, .slice none 0 0, .slice none 0 0]], []⟩ 8 (by kernel_rfl) (by kernel_rfl) (by kernel_rfl) (by kernel_rfl)) ?_
  intro W base args ds gs before hval0 hW hcnd _
  have hval : ∀ (j : Nat) t v, Try.f6.params[j]? = some t → args[j]? = some v → Value.okWide Try.prog W .any base t v := hval0
  have hW' := hW
  have hlt : ∀ p ∈ before, p.block < W.heap.size := fun p hp => hW.lt p hp
  obtain ⟨p, q, hA0, hV, rfl, hfz, hnd⟩ := hW
  have hA : DataW.TrodAll enc Try.prog W 0 (fun _ => true) true Try.f6.params.toList args.toList ds p := hA0
  rw [Try.params6] at hA hval
  obtain ⟨v0, vs0, d0, ds0, p0, q0, hargs, rfl, rfl, h0, r0⟩ := trodAll_cons hA
  obtain ⟨rfl, rfl, rfl⟩ := trodAll_nil r0
  obtain rfl : args = #[v0] := by cases args; simp_all
  obtain ⟨rfl, rfl⟩ := trodVars_none hV
  clear hA0 hval0
  simp only [List.append_nil] at hW' hlt
  obtain ⟨a0_0, a0_1, a0_2, a0_3, Aa0_3, ca0_3, a0_4, Aa0_4, ca0_4, rfl, h0_0, l0_0, h0_1, l0_1⟩ := argEntry (hval 0 39 v0 rfl rfl) h0 (fun x hx => hlt x (by simp [hx]))
  refine (walk a0_0 a0_1 a0_2 a0_3 Aa0_3 ca0_3 a0_4 Aa0_4 ca0_4 W h0_0 l0_0 h0_1 l0_1).mono fun e W' ⟨he, hb⟩ => ?_
  subst he
  exact ⟨_, rfl, post_true laidOut (fun t ht => by rw [Try.params6] at ht; revert t; decide +kernel) hW' rfl rfl rfl rfl rfl Try.underlying4 hb⟩

theorem over : Rows.fnExactIsEntryRow.holds Try.pinned (OpenSpec.ofChange Rows.fnExactIsEntrySpec) :=
  OpenClaim.holds_of_wide 6 Try.f6 rfl rfl rfl rfl rfl rfl rfl ⟨rfl, rfl, rfl, rfl, rfl⟩ rfl rfl rfl rfl rfl (by kernel_rfl) Try.func6 (by kernel_rfl)
    (of_decide_eq_true (by kernel_rfl)) (by unfold Func.isWrapper; first | (rw [if_pos (by decide +kernel)]; kernel_rfl) | (rw [if_neg (by decide +kernel)]; exact ⟨rfl, rfl⟩))
    (fun os started H enc _ => lifted os started H enc)

theorem proved : Rows.FnExactIsEntrySaid :=
  over
#print axioms proved

end Go.Proofs.Ytbdgbllmpmbceaa.fnExactIsEntry
