/-
  Contracts of AppendEntry, in the reference and in the program. The conditions are bounds on lengths.
-/
import Derived.Test.YteajjbfecpffeaaClone
import Derived.Test.YteajjbfecpffeaaAppR
import Derived.Test.YteajjbfecpffeaaPureE
import Derived.Test.YteajjbfecpffeaaIsLogI
import Derived.Test.YteajjbfecpffeaaFindE
namespace Go.Proofs.Yteajjbfecpffeaa
open Go.RowKit Go.ChangeShapes Go.WideShapes
set_option linter.unusedVariables false
set_option linter.unusedSimpArgs false

theorem lgGood_u (es : List Ent) (A : Option Addr) (c : Nat) {l h : Nat} (w : World) (hr : RdE w l h A es) (hl : eszL es ≤ 4194304) (hel : es.length ≤ 1048576) (v : Bool) (hv : logB es = v) :
    Calls Try.prog 43 #[.slice A es.length c] w fun e w' => e = .returned (.bool v) ∧ Below w.heap.size w w' := by
  subst hv
  exact lgGood_w es A c w hr hl hel
set_option maxRecDepth 100000 in
theorem lgIf_v (es : List Ent) (A : Option Addr) (n c : Nat) {l h : Nat} (w : World) (hr0 : RdE w l h A es) (hn : n = es.length) (hl : eszL es ≤ 4194304) (hel : es.length ≤ 1048576) (v : Bool) (hv : logB es = v) (R : List Ent) (hR : R = if v = true then es else []) :
    Calls Try.prog 44 #[.slice A n c] w fun e w' => ∃ A' c', e = .returned (.tuple #[.slice A' R.length c', .bool v]) ∧ OwnE w' w.heap.size w'.heap.size (.slice A' R.length c') R ∧ Below w.heap.size w w' := by
  subst hn
  have hr := hr0.std
  clear hr0
  cases v with
  | false =>
    obtain rfl : R = [] := hR
    go_enter Try.func44, Try.ntmps44
    go_wp2_with fail
    (with_reducible refine (lgGood_u es A c _ hr hl hel _ hv).mono ?_)
    rintro e w1 ⟨rfl, hb1⟩
    go_wp2
    go_ret2
    exact ⟨none, 0, rfl, OwnE.nil, hb1⟩
  | true =>
    obtain rfl : R = es := hR
    have hsz := log_esz hv
    go_enter Try.func44, Try.ntmps44
    go_wp2_with fail
    (with_reducible refine (lgGood_u R A c _ hr hl hel _ hv).mono ?_)
    rintro e w1 ⟨rfl, hb1⟩
    go_wp2_with fail
    (with_reducible refine (lgOwn_any R A c _ (hr.st hb1) (by omega)).mono ?_)
    rintro e w2 ⟨v2, rows, rfl, o2, e2, hb2⟩
    have hO := EntsOwn.ownE o2 e2
    obtain ⟨A2, c2, rfl, -, -⟩ := hO.rd
    have hB := hb1.trans (hb2.mono hb1.size)
    have hOH := Lib.hid (hO.mono hb1.size (Nat.le_refl _))
    clear o2 e2 hO hb2
    go_wp2
    go_ret2
    exact ⟨A2, c2, rfl, hOH.out, hB⟩
theorem cloneLog_n (es : List Ent) (A : Option Addr) (n c : Nat) {l h : Nat} (w : World) (hr0 : RdE w l h A es) (hn : n = es.length) (hl : eszL es ≤ 1048576) :
    Calls Try.prog 47 #[.slice A n c] w fun e w' => ∃ v rows, e = .returned v ∧ OwnR w' w.heap.size w'.heap.size 49 5 v rows ∧ EntsOwn w' w.heap.size w'.heap.size es rows ∧ Below w.heap.size w w' := by
  subst hn; exact cloneLog_any es A c w hr0 hl
end Go.Proofs.Yteajjbfecpffeaa
