/-
  Contracts of FindEntry and ShownSignals, in the reference and in the program. The conditions are bounds on lengths.
-/
import Derived.Test.YteajjbfecpffeaaIsLogI
import Derived.Test.YteajjbfecpffeaaPageMix
namespace Go.Proofs.Yteajjbfecpffeaa
open Go.RowKit Go.ChangeShapes Go.WideShapes
set_option linter.unusedVariables false
set_option linter.unusedSimpArgs false

def feB (es : List Ent) (m p : Int) : Bool := logB es && decide (0 ≤ findI es m p)
def feV (es : List Ent) (m p : Int) : Int := if feB es m p then findI es m p else 0
theorem feB_bad {es : List Ent} {m p : Int} (h : logB es = false) : feB es m p = false := by simp [feB, h]
theorem feB_no {es : List Ent} {m p : Int} (h : ¬ 0 ≤ findI es m p) : feB es m p = false := by simp [feB, h]
theorem feB_yes {es : List Ent} {m p : Int} (h : logB es = true) (h2 : 0 ≤ findI es m p) : feB es m p = true := by simp [feB, h, h2]
theorem feV_no {es : List Ent} {m p : Int} (h : feB es m p = false) : feV es m p = 0 := by simp [feV, h]
theorem feV_yes {es : List Ent} {m p : Int} (h : feB es m p = true) : feV es m p = findI es m p := by simp [feV, h]

def shSum (es : List Ent) (k : Nat) : Nat := ((es.take k).map fun e => e.shown.length).sum
theorem shSum_zero (es : List Ent) : shSum es 0 = 0 := by simp [shSum]
theorem shSum_succ (es : List Ent) (k : Nat) (h : k < es.length) : shSum es (k + 1) = shSum es k + es[k].shown.length := by
  unfold shSum; rw [List.take_succ_eq_append_getElem h, List.map_append, List.sum_append]; simp
theorem shown_le (l : List Ent) : (l.map fun e => e.shown.length).sum ≤ (l.map fun e => e.seen.length + e.shown.length).sum := by
  induction l with
  | nil => simp
  | cons a l ih => simp; omega
theorem shSum_le (es : List Ent) (k : Nat) : shSum es k ≤ eszL es := by
  have h1 := shown_le (es.take k)
  have h2 := psum_le es k
  unfold shSum
  unfold psum at h2
  unfold eszL psum
  omega
def ssV (es : List Ent) : Int := if logB es then (shSum es es.length : Int) else 0
theorem ssV_no {es : List Ent} (h : logB es = false) : ssV es = 0 := by simp [ssV, h]
theorem ssV_yes {es : List Ent} (h : logB es = true) : ssV es = (shSum es es.length : Int) := by simp [ssV, h]
theorem lgGood_v (es : List Ent) (A : Option Addr) (c : Nat) {l h : Nat} (w : World) (hr : RdE w l h A es) (hl : eszL es ≤ 1048576) (v : Bool) (hv : logB es = v) :
    Calls Try.prog 43 #[.slice A es.length c] w fun e w' => e = .returned (.bool v) ∧ Below w.heap.size w w' := by
  rw [← hv]; exact lgGood_any es A c w hr hl
theorem iIsLog_v (es : List Ent) (A : Option Addr) (c : Nat) {l h : Nat} (w : World) (hr : RdE w l h A es) (hl : eszL es ≤ 1048576) (hcap : es.length ≤ c) (v : Bool) (hv : logB es = v) :
    Calls Try.prog 46 #[.slice A es.length c] w fun e w' => e = .returned (.bool v) ∧ Below w.heap.size w w' := by
  rw [← hv]; exact iIsLog_any es A c w hr hl hcap

set_option maxHeartbeats 1000000 in
theorem sFindEntry_any (es : List Ent) (A : Option Addr) (c : Nat) (m p : Int) {l h : Nat} (w : World) (hr0 : RdE w l h A es) (hl : eszL es ≤ 1048576) :
    Calls Try.prog 27 #[.slice A es.length c, .int .i64 m, .int .i64 p] w fun e w' => e = .returned (.tuple #[.int .i64 (feV es m p), .bool (feB es m p)]) ∧ Below w.heap.size w w' := by
  have hr := hr0.std
  clear hr0
  have hel : es.length ≤ 1048576 := Nat.le_trans (esz_len es) hl
  cases h1 : logB es with
  | false =>
    have hq := Lib.hid (feB_bad (m := m) (p := p) h1)
    have hv := Lib.hid (feV_no hq.out)
    go_enter Try.func27, Try.ntmps27
    go_wp2_with (go_at_call 43; (with_reducible refine (lgGood_v es A c _ hr hl _ h1).mono ?_); rintro e w1 ⟨rfl, hb1⟩)
    go_ret2
    exact ⟨ret_ib hv.out.symm hq.out.symm, hb1⟩
  | true =>
    obtain ⟨v, hv0⟩ : ∃ v, findI es m p = v := ⟨_, rfl⟩
    have hv : Hid (findI es m p = v) := Lib.hid hv0
    by_cases h2 : 0 ≤ v
    · have hq := Lib.hid (feB_yes h1 (by rw [hv0]; exact h2))
      have hw : Hid (feV es m p = v) := Lib.hid ((feV_yes hq.out).trans hv0)
      have h3 : ¬ v < 0 := by omega
      clear hv0
      go_enter Try.func27, Try.ntmps27
      go_wp2_with (first | (go_at_call 43; (with_reducible refine (lgGood_v es A c _ hr hl _ h1).mono ?_); rintro e w1 ⟨rfl, hb1⟩) | (go_at_call 61; (with_reducible refine (lgFind_v es A c m p _ ((hr.st hb1).st hb2) hel v hv.out).mono ?_); rintro e w3 ⟨rfl, hb3⟩) | (go_at_call 61; (with_reducible refine (lgFind_v es A c m p _ (hr.st hb1) hel v hv.out).mono ?_); rintro e w2 ⟨rfl, hb2⟩))
      go_ret2
      exact ⟨ret_ib hw.out.symm hq.out.symm, hb1.trans ((hb2.mono hb1.size).trans (hb3.mono (by have := hb1.size; have := hb2.size; omega)))⟩
    · have hq := Lib.hid (feB_no (es := es) (m := m) (p := p) (by rw [hv0]; exact h2))
      have hw := Lib.hid (feV_no hq.out)
      have h3 : v < 0 := by omega
      clear hv0
      go_enter Try.func27, Try.ntmps27
      go_wp2_with (first | (go_at_call 43; (with_reducible refine (lgGood_v es A c _ hr hl _ h1).mono ?_); rintro e w1 ⟨rfl, hb1⟩) | (go_at_call 61; (with_reducible refine (lgFind_v es A c m p _ (hr.st hb1) hel v hv.out).mono ?_); rintro e w2 ⟨rfl, hb2⟩))
      go_ret2
      exact ⟨ret_ib hw.out.symm hq.out.symm, hb1.trans (hb2.mono hb1.size)⟩
end Go.Proofs.Yteajjbfecpffeaa