/-
  Contracts of FindEntry and ShownSignals, in the reference and in the program. The conditions are bounds on lengths.
-/
import Derived.Test.YtaoobcjannbnjaaDoorIsLogI
import Derived.Test.YtaoobcjannbnjaaDoorPageMix
namespace Go.Proofs.YtaoobcjannbnjaaDoor
open Go.RowKit Go.ChangeShapes Go.WideShapes
set_option linter.unusedVariables false
set_option linter.unusedSimpArgs false

def feB (es : List Ent) (m p : Int) : Bool := logB es && decide (0 ≤ findI es m p)
def feV (es : List Ent) (m p : Int) : Int := if feB es m p then findI es m p else 0
theorem feB_bad {es : List Ent} {m p : Int} (h : logB es = false) : feB es m p = false := by simp [feB, h]
theorem feB_no {es : List Ent} {m p : Int} (h : ¬ 0 ≤ findI es m p) : feB es m p = false := by simp [feB, h]
theorem feB_yes {es : List Ent} {m p : Int} (h : logB es = true) (h2 : 0 ≤ findI es m p) : feB es m p = true := by simp [feB, h, h2]
theorem feV_no {es : List Ent} {m p : Int} (h : feB es m p = false) : feV es m p = 0 := by simp [feV, h]
theorem feV_yes {es : List Ent} {m p : Int} (h : feB es m p = true) : feV es m p = findI es m p := by simp [feV, h]

def shSum (es : List Ent) (k : Nat) : Nat := ((es.take k).map fun e => e.shown.length).sum
theorem shSum_zero (es : List Ent) : shSum es 0 = 0 := by simp [shSum]
theorem shSum_succ (es : List Ent) (k : Nat) (h : k < es.length) : shSum es (k + 1) = shSum es k + es[k].shown.length := by
  unfold shSum; rw [List.take_succ_eq_append_getElem h, List.map_append, List.sum_append]; simp
theorem shown_le (l : List Ent) : (l.map fun e => e.shown.length).sum ≤ (l.map fun e => e.seen.length + e.shown.length).sum := by
  induction l with
  | nil => simp
  | cons a l ih => simp; omega
theorem shSum_le (es : List Ent) (k : Nat) : shSum es k ≤ eszL es := by
  have h1 := shown_le (es.take k)
  have h2 := psum_le es k
  unfold shSum
  unfold psum at h2
  unfold eszL psum
  omega
def ssV (es : List Ent) : Int := if logB es then (shSum es es.length : Int) else 0
theorem ssV_no {es : List Ent} (h : logB es = false) : ssV es = 0 := by simp [ssV, h]
theorem ssV_yes {es : List Ent} (h : logB es = true) : ssV es = (shSum es es.length : Int) := by simp [ssV, h]
theorem lgGood_v (es : List Ent) (A : Option Addr) (c : Nat) {l h : Nat} (w : World) (hr : RdE w l h A es) (hl : eszL es ≤ 1048576) (v : Bool) (hv : logB es = v) :
    Calls Tryd.prog 51 #[.slice A es.length c] w fun e w' => e = .returned (.bool v) ∧ Below w.heap.size w w' := by
  rw [← hv]; exact lgGood_any es A c w hr hl
theorem iIsLog_v (es : List Ent) (A : Option Addr) (c : Nat) {l h : Nat} (w : World) (hr : RdE w l h A es) (hl : eszL es ≤ 1048576) (hcap : es.length ≤ c) (v : Bool) (hv : logB es = v) :
    Calls Tryd.prog 54 #[.slice A es.length c] w fun e w' => e = .returned (.bool v) ∧ Below w.heap.size w w' := by
  rw [← hv]; exact iIsLog_any es A c w hr hl hcap

end Go.Proofs.YtaoobcjannbnjaaDoor