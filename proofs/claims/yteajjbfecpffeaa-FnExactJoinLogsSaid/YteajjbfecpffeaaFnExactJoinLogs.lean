/-
  The program's JoinLogs returns what the reference's returns, for all arguments. No conditions.
-/
import Derived.Test.YteajjbfecpffeaaShut
import Derived.Test.YteajjbfecpffeaaWJoinLogs
namespace Go.Proofs.Yteajjbfecpffeaa.fnExactJoinLogs
open Go.ChangeShapes Go.WideShapes Go.ChangeAt Go.RowKit
set_option linter.unusedVariables false

set_option maxRecDepth 100000 in
theorem lifted (os : Os) (started : os.Started) (H : Type) (enc : TypeId × Value → H) :
    ReturnsInHanded {} Try.checked os 3 .any (Rows.fnExactJoinLogsSpec.pre6 enc Try.prog Try.f3 Rows.fnExactJoinLogsRow.domain false) (Rows.fnExactJoinLogsSpec.post enc Try.prog Try.f3 false true false false) := by
  refine returnsInHanded_of_change (C := Try.checked) ownGo started (by kernel_rfl) Try.func3
    (ChangeSpec.witness6 (enc := enc) (C := Try.checked) false ⟨#[], #[.slice none 0 0, .slice none 0 0], []⟩ 8 (by kernel_rfl) (by kernel_rfl) (by kernel_rfl) (by kernel_rfl)) ?_
  intro W base args ds gs before hval0 hW hcnd _
  have hval : ∀ (j : Nat) t v, Try.f3.params[j]? = some t → args[j]? = some v → Value.okWide Try.prog W .any base t v := hval0
  have hW' := hW
  have hlt : ∀ p ∈ before, p.block < W.heap.size := fun p hp => hW.lt p hp
  obtain ⟨p, q, hA0, hV, rfl, hfz, hnd⟩ := hW
  have hA : DataW.TrodAll enc Try.prog W 0 (fun _ => true) true Try.f3.params.toList args.toList ds p := hA0
  rw [Try.params3] at hA hval
  obtain ⟨v0, vs0, d0, ds0, p0, q0, hargs, rfl, rfl, h0, r0⟩ := trodAll_cons hA
  obtain ⟨v1, vs1, d1, ds1, p1, q1, rfl, rfl, rfl, h1, r1⟩ := trodAll_cons r0
  obtain ⟨rfl, rfl, rfl⟩ := trodAll_nil r1
  obtain rfl : args = #[v0, v1] := by cases args; simp_all
  obtain ⟨rfl, rfl⟩ := trodVars_none hV
  clear hA0 hval0
  simp only [List.append_nil] at hW' hlt
  obtain ⟨a0_0, Aa0_0, ca0_0, rfl, h0_0, l0_0, v0_0⟩ := argEntryS (hval 0 22 v0 rfl rfl) h0 (fun x hx => hlt x (by simp [hx]))
  obtain ⟨a1_0, Aa1_0, ca1_0, rfl, h1_0, l1_0, v1_0⟩ := argEntryS (hval 1 22 v1 rfl rfl) h1 (fun x hx => hlt x (by simp [hx]))
  refine (walk a0_0 Aa0_0 ca0_0 a1_0 Aa1_0 ca1_0 W h0_0 l0_0 v0_0 h1_0 l1_0 v1_0).mono fun e W' ⟨he, hb⟩ => ?_
  subst he
  exact ⟨_, rfl, post_true laidOut (fun t ht => by rw [Try.params3] at ht; revert t; decide +kernel) hW' rfl rfl rfl rfl rfl Try.underlying4 hb⟩

theorem over : Rows.fnExactJoinLogsRow.holds Try.pinned (OpenSpec.ofChange Rows.fnExactJoinLogsSpec) :=
  OpenClaim.holds_of_wide 3 Try.f3 rfl rfl rfl rfl rfl rfl rfl ⟨rfl, rfl, rfl, rfl, rfl⟩ rfl rfl rfl rfl rfl (by kernel_rfl) Try.func3 (by kernel_rfl)
    (of_decide_eq_true (by kernel_rfl)) (by unfold Func.isWrapper; first | (rw [if_pos (by decide +kernel)]; kernel_rfl) | (rw [if_neg (by decide +kernel)]; exact ⟨rfl, rfl⟩))
    (fun os started H enc _ => lifted os started H enc)

theorem proved : Rows.FnExactJoinLogsSaid :=
  over
#print axioms proved

end Go.Proofs.Yteajjbfecpffeaa.fnExactJoinLogs
