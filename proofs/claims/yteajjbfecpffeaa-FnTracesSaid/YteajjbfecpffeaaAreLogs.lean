/-
  Validity of a line's logs, in the reference and in the program. The conditions are bounds on lengths.
-/
import Derived.Test.YteajjbfecpffeaaLogs
import Derived.Test.YteajjbfecpffeaaFindE
namespace Go.Proofs.Yteajjbfecpffeaa
open Go.RowKit Go.ChangeShapes Go.WideShapes
set_option linter.unusedVariables false
set_option linter.unusedSimpArgs false

def logsB (es : List (List Ent)) : Bool := inB (es.length : Int) 1 8 && es.all logB
theorem logsB_bad {es : List (List Ent)} {k : Nat} (h : k < es.length) (h1 : logB es[k] = false) : logsB es = false := by
  unfold logsB
  rw [Bool.and_eq_false_iff]; right
  rw [List.all_eq_false]
  exact ⟨es[k], List.getElem_mem h, by simp [h1]⟩
theorem logsB_len {es : List (List Ent)} (h : inB (es.length : Int) 1 8 = false) : logsB es = false := by simp [logsB, h]
theorem logsB_all {es : List (List Ent)} (h : ∀ k (_ : k < es.length), logB es[k] = true) : logsB es = inB (es.length : Int) 1 8 := by
  have : es.all logB = true := List.all_eq_true.2 fun x hx => by
    obtain ⟨k, hk, e⟩ := List.getElem_of_mem hx
    rw [← e]; exact h k hk
  simp [logsB, this]
theorem logsB_iff {es : List (List Ent)} : logsB es = true ↔ (1 ≤ es.length ∧ es.length ≤ 8) ∧ ∀ k (_ : k < es.length), logB es[k] = true := by
  unfold logsB
  rw [Bool.and_eq_true, inB_iff, List.all_eq_true]
  constructor
  · intro h; exact ⟨by omega, fun k hk => h.2 _ (List.getElem_mem hk)⟩
  · intro h
    refine ⟨by omega, fun x hx => ?_⟩
    obtain ⟨k, hk, e⟩ := List.getElem_of_mem hx
    rw [← e]; exact h.2 k hk
/-- the first that is no log -/
def nbI (es : List (List Ent)) : Int := match es.findIdx? (fun l => !logB l) with | some k => (k : Int) | none => -1
theorem nbI_at {es : List (List Ent)} {k : Nat} (h : k < es.length) (h1 : logB es[k] = false) (h2 : ∀ j (h3 : j < es.length), j < k → logB es[j] = true) : nbI es = (k : Int) := by
  have : es.findIdx? (fun l => !logB l) = some k := by
    rw [List.findIdx?_eq_some_iff_getElem]
    exact ⟨h, by simp [h1], fun j hj => by simp [h2 j (by omega) hj]⟩
  simp [nbI, this]
theorem nbI_no {es : List (List Ent)} (h : ∀ k (_ : k < es.length), logB es[k] = true) : nbI es = -1 := by
  have : es.findIdx? (fun l => !logB l) = none := by
    rw [List.findIdx?_eq_none_iff]
    intro x hx
    obtain ⟨k, hk, e⟩ := List.getElem_of_mem hx
    simp [← e, h k hk]
  simp [nbI, this]
theorem nbI_all (es : List (List Ent)) : decide (0 ≤ nbI es) = !es.all logB := by
  unfold nbI
  cases hf : es.findIdx? (fun l => !logB l) with
  | some k =>
    rw [List.findIdx?_eq_some_iff_getElem] at hf
    obtain ⟨h, h1, _⟩ := hf
    have : es.all logB = false := List.all_eq_false.2 ⟨es[k], List.getElem_mem h, by simpa using h1⟩
    simp [this]
  | none =>
    rw [List.findIdx?_eq_none_iff] at hf
    have : es.all logB = true := List.all_eq_true.2 fun x hx => by simpa using hf x hx
    simp [this]

set_option maxHeartbeats 1000000 in
theorem auGood_any (es : List (List Ent)) (A : Option Addr) (c : Nat) {l h : Nat} (w : World) (hr0 : RdEE w l h A es) (hl : esszL es ≤ 1048576) :
    Calls Try.prog 64 #[.slice A es.length c] w fun e w' => e = .returned (.bool (logsB es)) ∧ Below w.heap.size w w' := by
  have hr := hr0.std
  clear hr0
  have hel := essz_len es
  go_enter Try.func64, Try.ntmps64
  go_wp2
  go_loopw [4, 7] (fun _ i wr => ∃ k : Nat, k ≤ es.length ∧ i = .int .i64 k ∧ (∀ j (h : j < es.length), j < k → logB es[j] = true) ∧ Below w.heap.size w wr) (fun _ i _ => es.length - (intOf i).toNat)
  case atStart => exact ⟨0, Nat.zero_le _, rfl, fun j _ h => absurd h (by omega), Below.refl _ _⟩
  case round =>
    obtain ⟨k, hk, rfl, hall, hbr⟩ := hrel
    have hallH := Lib.hid hall
    clear hall
    by_cases hlt : k < es.length
    · obtain ⟨b, off, rfl, _, _, hc⟩ := (hr.below hbr (Nat.le_refl _)) (by omega)
      obtain ⟨A1, c1, x0, r1, _⟩ := hc k hlt
      have hat := essz_at es k hlt
      have hszr := hbr.size
      clear hc
      cases h1 : logB es[k] with
      | false =>
        have hq := Lib.hid (logsB_bad hlt h1)
        go_wp2_with (go_at_call 43; (with_reducible refine (lgGood_v es[k] A1 c1 _ r1 (by omega) _ h1).mono ?_); rintro e w1 ⟨rfl, hb1⟩)
        go_ret
        exact ⟨by rw [hq.out]; rfl, hbr.trans (hb1.mono hszr)⟩
      | true =>
        go_wp2_with (go_at_call 43; (with_reducible refine (lgGood_v es[k] A1 c1 _ r1 (by omega) _ h1).mono ?_); rintro e w1 ⟨rfl, hb1⟩)
        go_roundw
        case rel => exact ⟨k + 1, by omega, by go_num, fun j h2 h3 => by
          by_cases hj : j = k
          · subst hj; exact h1
          · exact hallH.out j h2 (by omega), hbr.trans (hb1.mono hszr)⟩
        case measure => simp [intOf]; omega
    · have hq := Lib.hid (logsB_all (es := es) fun j h1 => hallH.out j h1 (by omega))
      go_wp2_with (go_at_call 104; refine (l1In_any _ _ _ _).mono ?_; rintro e w' ⟨rfl, rfl⟩)
      go_ret
      exact ⟨by rw [hq.out]; rfl, hbr⟩
theorem alClo_any (es : List Ent) (A : Option Addr) (c : Nat) {l h : Nat} (w : World) (hr : RdE w l h A es) (hl : eszL es ≤ 1048576) (hcap : es.length ≤ c) (v : Bool) (hv : logB es = v) :
    Calls Try.prog 108 #[.slice A es.length c] w fun e w' => e = .returned (.bool (!v)) ∧ Below w.heap.size w w' := by
  go_enter Try.func108, Try.ntmps108
  go_wp2_with (go_at_call 46; (with_reducible refine (iIsLog_v es A c _ hr hl hcap _ hv).mono ?_); rintro e w' ⟨rfl, hb⟩)
  go_ret
  exact ⟨rfl, hb⟩
set_option maxHeartbeats 1000000 in
theorem idxL_any (es : List (List Ent)) (A : Option Addr) (c : Nat) {l h : Nat} (w : World) (hr0 : RdEE w l h A es) (hl : esszL es ≤ 1048576) :
    Calls Try.prog 131 #[.slice A es.length c, .func (.func 108) #[] #[]] w fun e w' => e = .returned (.int .i64 (nbI es)) ∧ Below w.heap.size w w' := by
  have hr := hr0.std
  clear hr0
  have hel := essz_len es
  go_enter Try.func131, Try.ntmps131
  go_wp2
  go_loopw [5, 8] (fun _ i wr => ∃ k : Nat, k ≤ es.length ∧ i = .int .i64 k ∧ (∀ j (h : j < es.length), j < k → logB es[j] = true) ∧ Below w.heap.size w wr) (fun _ i _ => es.length - (intOf i).toNat)
  case atStart => exact ⟨0, Nat.zero_le _, rfl, fun j _ h => absurd h (by omega), Below.refl _ _⟩
  case round =>
    obtain ⟨k, hk, rfl, hall, hbr⟩ := hrel
    have hallH := Lib.hid hall
    clear hall
    by_cases hlt : k < es.length
    · obtain ⟨b, off, rfl, _, _, hc⟩ := (hr.below hbr (Nat.le_refl _)) (by omega)
      obtain ⟨A1, c1, x0, r1, hcap⟩ := hc k hlt
      have hat := essz_at es k hlt
      have hszr := hbr.size
      clear hc
      cases h1 : logB es[k] with
      | false =>
        have hq := Lib.hid (nbI_at hlt h1 hallH.out)
        go_wp2_with (go_at_call 108; (with_reducible refine (alClo_any es[k] A1 c1 _ r1 (by omega) hcap _ h1).mono ?_); rintro e w1 ⟨rfl, hb1⟩)
        go_ret
        exact ⟨by rw [hq.out]; rfl, hbr.trans (hb1.mono hszr)⟩
      | true =>
        go_wp2_with (go_at_call 108; (with_reducible refine (alClo_any es[k] A1 c1 _ r1 (by omega) hcap _ h1).mono ?_); rintro e w1 ⟨rfl, hb1⟩)
        go_roundw
        case rel => exact ⟨k + 1, by omega, by go_num, fun j h2 h3 => by
          by_cases hj : j = k
          · subst hj; exact h1
          · exact hallH.out j h2 (by omega), hbr.trans (hb1.mono hszr)⟩
        case measure => simp [intOf]; omega
    · have hq := Lib.hid (nbI_no (es := es) fun j h1 => hallH.out j h1 (by omega))
      go_wp2
      go_ret
      exact ⟨by rw [hq.out]; rfl, hbr⟩
theorem conL_any (es : List (List Ent)) (A : Option Addr) (c : Nat) {l h : Nat} (w : World) (hr : RdEE w l h A es) (hl : esszL es ≤ 1048576) :
    Calls Try.prog 107 #[.slice A es.length c, .func (.func 108) #[] #[]] w fun e w' => e = .returned (.bool (!es.all logB)) ∧ Below w.heap.size w w' := by
  have hq := Lib.hid (nbI_all es)
  go_enter Try.func107, Try.ntmps107
  go_wp2_with (go_at_call 131; refine (idxL_any es A c _ hr hl).mono ?_; rintro e w' ⟨rfl, hb⟩)
  go_ret
  exact ⟨by rw [← hq.out]; rfl, hb⟩
theorem iAreLogs_any (es : List (List Ent)) (A : Option Addr) (c : Nat) {l h : Nat} (w : World) (hr : RdEE w l h A es) (hl : esszL es ≤ 1048576) :
    Calls Try.prog 68 #[.slice A es.length c] w fun e w' => e = .returned (.bool (logsB es)) ∧ Below w.heap.size w w' := by
  have hel := essz_len es
  cases h0 : inB (es.length : Int) 1 8 with
  | false =>
    have hq := Lib.hid (logsB_len h0)
    go_enter Try.func68, Try.ntmps68
    go_wp2_with (go_at_call 86; refine (within_any _ _ _ _).mono ?_; rintro e w' ⟨rfl, rfl⟩)
    go_ret
    exact ⟨by rw [hq.out]; rfl, Below.refl _ _⟩
  | true =>
    have hq : Hid (logsB es = es.all logB) := Lib.hid (by simp [logsB, h0])
    go_enter Try.func68, Try.ntmps68
    go_wp2_with (first | (go_at_call 86; refine (within_any _ _ _ _).mono ?_; rintro e w' ⟨rfl, rfl⟩) | (go_at_call 107; refine (conL_any es A c _ hr hl).mono ?_; rintro e w' ⟨rfl, hb⟩))
    go_ret
    exact ⟨by rw [hq.out]; simp, hb⟩
end Go.Proofs.Yteajjbfecpffeaa
