/-
  The program's EntriesFrom returns what the reference's returns, for all arguments. No conditions.
-/
import Derived.Test.YtbagliaelolhcaaShut
import Derived.Test.YtbagliaelolhcaaWEntriesFrom
namespace Go.Proofs.Ytbagliaelolhcaa.fnExactEntriesFrom
open Go.ChangeShapes Go.WideShapes Go.ChangeAt Go.RowKit
set_option linter.unusedVariables false

set_option maxRecDepth 100000 in
theorem lifted (os : Os) (started : os.Started) (H : Type) (enc : TypeId × Value → H) :
    ReturnsInHanded {} Try.checked os 5 .any (Rows.fnExactEntriesFromSpec.pre6 enc Try.prog Try.f5 Rows.fnExactEntriesFromRow.domain false) (Rows.fnExactEntriesFromSpec.post enc Try.prog Try.f5 false true false false) := by
  refine returnsInHanded_of_change (C := Try.checked) ownGo started (by kernel_rfl) Try.func5
    (ChangeSpec.witness6 (enc := enc) (C := Try.checked) false ⟨#[], #[.slice none 0 0, .int .i64 0, .int .i64 0], []⟩ 8 (by kernel_rfl) (by kernel_rfl) (by kernel_rfl) (by kernel_rfl)) ?_
  intro W base args ds gs before hval0 hW hcnd _
  have hval : ∀ (j : Nat) t v, Try.f5.params[j]? = some t → args[j]? = some v → Value.okWide Try.prog W .any base t v := hval0
  have hW' := hW
  have hlt : ∀ p ∈ before, p.block < W.heap.size := fun p hp => hW.lt p hp
  obtain ⟨p, q, hA0, hV, rfl, hfz, hnd⟩ := hW
  have hA : DataW.TrodAll enc Try.prog W 0 (fun _ => true) true Try.f5.params.toList args.toList ds p := hA0
  rw [Try.params5] at hA hval
  obtain ⟨v0, vs0, d0, ds0, p0, q0, hargs, rfl, rfl, h0, r0⟩ := trodAll_cons hA
  obtain ⟨v1, vs1, d1, ds1, p1, q1, rfl, rfl, rfl, h1, r1⟩ := trodAll_cons r0
  obtain ⟨v2, vs2, d2, ds2, p2, q2, rfl, rfl, rfl, h2, r2⟩ := trodAll_cons r1
  obtain ⟨rfl, rfl, rfl⟩ := trodAll_nil r2
  obtain rfl : args = #[v0, v1, v2] := by cases args; simp_all
  obtain ⟨rfl, rfl⟩ := trodVars_none hV
  clear hA0 hval0
  simp only [List.append_nil] at hW' hlt
  obtain ⟨a0_0, Aa0_0, ca0_0, rfl, h0_0, l0_0, v0_0⟩ := argEntryS (hval 0 22 v0 rfl rfl) h0 (fun x hx => hlt x (by simp [hx]))
  obtain ⟨a1_0, rfl⟩ := argInt (hval 1 3 v1 rfl rfl) h1 (fun x hx => hlt x (by simp [hx]))
  obtain ⟨a2_0, rfl⟩ := argInt (hval 2 3 v2 rfl rfl) h2 (fun x hx => hlt x (by simp [hx]))
  refine (walk a0_0 Aa0_0 ca0_0 a1_0 a2_0 W h0_0 l0_0 v0_0).mono fun e W' ⟨he, hb⟩ => ?_
  subst he
  exact ⟨_, rfl, post_true laidOut (fun t ht => by rw [Try.params5] at ht; revert t; decide +kernel) hW' rfl rfl rfl rfl rfl Try.underlying4 hb⟩

theorem over : Rows.fnExactEntriesFromRow.holds Try.pinned (OpenSpec.ofChange Rows.fnExactEntriesFromSpec) :=
  OpenClaim.holds_of_wide 5 Try.f5 rfl rfl rfl rfl rfl rfl rfl ⟨rfl, rfl, rfl, rfl, rfl⟩ rfl rfl rfl rfl rfl (by kernel_rfl) Try.func5 (by kernel_rfl)
    (of_decide_eq_true (by kernel_rfl)) (by unfold Func.isWrapper; first | (rw [if_pos (by decide +kernel)]; kernel_rfl) | (rw [if_neg (by decide +kernel)]; exact ⟨rfl, rfl⟩))
    (fun os started H enc _ => lifted os started H enc)

theorem proved : Rows.FnExactEntriesFromSaid :=
  over
#print axioms proved

end Go.Proofs.Ytbagliaelolhcaa.fnExactEntriesFrom
