/-
  Contracts of LastTower and TimesOf, in the reference and in the program. The conditions are bounds on lengths.
-/
import Derived.Test.YtgglofcjifmbjaaAreLogs
namespace Go.Proofs.Ytgglofcjifmbjaa
open Go.RowKit Go.ChangeShapes Go.WideShapes
set_option linter.unusedVariables false
set_option linter.unusedSimpArgs false

def paB (es : List (List Ent)) (m p : Int) : Bool := logsB es && (inB m 1 999 && inB p 0 8)
/-- how many towers from the first on have an entry of the part -/
def ltN (es : List (List Ent)) (m p : Int) : Nat := (es.takeWhile fun l => decide (0 ≤ findI l m p)).length
theorem ltN_at {es : List (List Ent)} {m p : Int} {k : Nat} (h : k < es.length) (h1 : ¬ 0 ≤ findI es[k] m p) (h2 : ∀ j (h3 : j < es.length), j < k → 0 ≤ findI es[j] m p) : ltN es m p = k := by
  unfold ltN
  induction es generalizing k with
  | nil => exact absurd h (by simp)
  | cons a es ih =>
    cases k with
    | zero =>
      have : ¬ 0 ≤ findI a m p := h1
      simp [List.takeWhile_cons, this]
    | succ k =>
      have h0 : 0 ≤ findI a m p := h2 0 (by simp) (by omega)
      have hk : k < es.length := by simpa using h
      have h1' : ¬ 0 ≤ findI es[k] m p := by simpa using h1
      have := ih hk h1' (fun j h3 hj => by have := h2 (j + 1) (by simp; omega) (by omega); rwa [List.getElem_cons_succ] at this)
      simp [List.takeWhile_cons, h0, this]
theorem ltN_all {es : List (List Ent)} {m p : Int} (h2 : ∀ j (h3 : j < es.length), 0 ≤ findI es[j] m p) : ltN es m p = es.length := by
  unfold ltN
  induction es with
  | nil => rfl
  | cons a es ih =>
    have h0 : 0 ≤ findI a m p := h2 0 (by simp)
    have := ih (fun j h3 => by have := h2 (j + 1) (by simp; omega); rwa [List.getElem_cons_succ] at this)
    simp [List.takeWhile_cons, h0, this]
def ltB (es : List (List Ent)) (m p : Int) : Bool := paB es m p && decide (0 < ltN es m p)
def ltV (es : List (List Ent)) (m p : Int) : Int := if ltB es m p then (ltN es m p : Int) - 1 else 0
theorem ltB_no {es : List (List Ent)} {m p : Int} (h : paB es m p = false) : ltB es m p = false := by simp [ltB, h]
theorem ltV_no {es : List (List Ent)} {m p : Int} (h : ltB es m p = false) : ltV es m p = 0 := by simp [ltV, h]
theorem ltB_at {es : List (List Ent)} {m p : Int} {k : Nat} (h : paB es m p = true) (hk : ltN es m p = k) : ltB es m p = decide ((0 : Int) < (k : Int)) := by simp [ltB, h, hk]
theorem ltV_at {es : List (List Ent)} {m p : Int} {k : Nat} (h : paB es m p = true) (hk : ltN es m p = k) : ltV es m p = if (0 : Int) < (k : Int) then (k : Int) - 1 else 0 := by
  unfold ltV; rw [ltB_at h hk, hk]; by_cases h0 : (0 : Int) < (k : Int) <;> simp [h0]
theorem paB_log {es : List (List Ent)} {m p : Int} (h : paB es m p = true) : logsB es = true ∧ (1 ≤ es.length ∧ es.length ≤ 8) := by
  simp only [paB, Bool.and_eq_true] at h; exact ⟨h.1, (logsB_iff.1 h.1).1⟩

/-- the time of a part's entry, or -1 -/
def tmV (l : List Ent) (m p : Int) : Int := if 0 ≤ findI l m p then (match l[(findI l m p).toNat]? with | some e => e.time | none => -1) else -1
theorem tmV_no {l : List Ent} {m p : Int} (h : ¬ 0 ≤ findI l m p) : tmV l m p = -1 := by simp [tmV, h]
theorem tmV_yes {l : List Ent} {m p : Int} {q : Nat} (h : findI l m p = (q : Int)) (hq : q < l.length) : tmV l m p = l[q].time := by simp [tmV, h, hq]
def tmM (es : List (List Ent)) (m p : Int) : List Int := es.map fun l => tmV l m p
theorem tmM_len (es : List (List Ent)) (m p : Int) : (tmM es m p).length = es.length := by simp [tmM]
theorem tmM_at (es : List (List Ent)) (m p : Int) (k : Nat) (h : k < (tmM es m p).length) : (tmM es m p)[k] = tmV (es[k]'(by simpa [tmM] using h)) m p := by simp [tmM]
def tmL (es : List (List Ent)) (m p : Int) : List Int := if paB es m p then tmM es m p else []
theorem tmL_no {es : List (List Ent)} {m p : Int} (h : paB es m p = false) : tmL es m p = [] := by simp [tmL, h]
theorem tmL_yes {es : List (List Ent)} {m p : Int} (h : paB es m p = true) : tmL es m p = tmM es m p := by simp [tmL, h]
theorem tmM_take_succ (es : List (List Ent)) (m p : Int) (k : Nat) (h : k < es.length) : (tmM es m p).take (k + 1) = (tmM es m p).take k ++ [tmV es[k] m p] := by
  rw [List.take_succ_eq_append_getElem (by simpa [tmM] using h), tmM_at]
theorem tmM_tk_succ (es : List (List Ent)) (m p : Int) (k : Nat) (h : k < es.length) : (tk (tmM es m p) k).set k (tmV es[k] m p) = tk (tmM es m p) (k + 1) := by
  have hl : k < (tmM es m p).length := by simpa [tmM] using h
  rw [← tmM_at es m p k hl]; exact tk_succ _ _ hl
theorem set_set (l : List Int) (k : Nat) (a b : Int) : (l.set k a).set k b = l.set k b := by simp
theorem findI_cast {es : List Ent} {m p : Int} (h : 0 ≤ findI es m p) : ∃ q : Nat, findI es m p = (q : Int) ∧ q < es.length := by
  rcases findI_cases es m p with ⟨k, hk, e, _⟩ | ⟨e, _⟩
  · exact ⟨k, e, hk⟩
  · omega

theorem auGood_v (es : List (List Ent)) (A : Option Addr) (c : Nat) {l h : Nat} (w : World) (hr : RdEE w l h A es) (hl : esszL es ≤ 1048576) (v : Bool) (hv : logsB es = v) :
    Calls Try.prog 61 #[.slice A es.length c] w fun e w' => e = .returned (.bool v) ∧ Below w.heap.size w w' := by
  rw [← hv]; exact auGood_any es A c w hr hl
theorem iAreLogs_v (es : List (List Ent)) (A : Option Addr) (c : Nat) {l h : Nat} (w : World) (hr : RdEE w l h A es) (hl : esszL es ≤ 1048576) (v : Bool) (hv : logsB es = v) :
    Calls Try.prog 63 #[.slice A es.length c] w fun e w' => e = .returned (.bool v) ∧ Below w.heap.size w w' := by
  rw [← hv]; exact iAreLogs_any es A c w hr hl
theorem l1In_v (n lo hi : Int) (w : World) (v : Bool) (hv : inB n lo hi = v) :
    Calls Try.prog 86 #[.int .i64 n, .int .i64 lo, .int .i64 hi] w fun e w' => e = .returned (.bool v) ∧ w = w' := by
  rw [← hv]; exact l1In_any n lo hi w
theorem within_v (n lo hi : Int) (w : World) (v : Bool) (hv : inB n lo hi = v) :
    Calls Try.prog 87 #[.int .i64 n, .int .i64 lo, .int .i64 hi] w fun e w' => e = .returned (.bool v) ∧ w = w' := by
  rw [← hv]; exact within_any n lo hi w

set_option maxHeartbeats 1000000 in
theorem auAsked_v (es : List (List Ent)) (A : Option Addr) (c : Nat) (m p : Int) {l h : Nat} (w : World) (hr : RdEE w l h A es) (hl : esszL es ≤ 1048576) (v : Bool) (hv0 : paB es m p = v) :
    Calls Try.prog 55 #[.slice A es.length c, .int .i64 m, .int .i64 p] w fun e w' => e = .returned (.bool v) ∧ Below w.heap.size w w' := by
  subst hv0
  have hv : Hid (paB es m p = (logsB es && (inB m 1 999 && inB p 0 8))) := Lib.hid rfl
  cases q1 : logsB es <;> cases q2 : inB m 1 999 <;> cases q3 : inB p 0 8 <;>
  · go_enter Try.func55, Try.ntmps55
    go_wp2_with (first | (go_at_call 61; (with_reducible refine (auGood_v es A c _ hr hl _ q1).mono ?_); rintro e w1 ⟨rfl, hb1⟩) | (go_at_call 86; (with_reducible refine (l1In_v m 1 999 _ _ q2).mono ?_); rintro e w' ⟨rfl, rfl⟩) | (go_at_call 86; (with_reducible refine (l1In_v p 0 8 _ _ q3).mono ?_); rintro e w' ⟨rfl, rfl⟩))
    go_ret
    exact ⟨by rw [hv.out, q1, q2, q3]; rfl, hb1⟩

set_option maxHeartbeats 1000000 in
theorem partAsked_v (es : List (List Ent)) (A : Option Addr) (c : Nat) (m p : Int) {l h : Nat} (w : World) (hr : RdEE w l h A es) (hl : esszL es ≤ 1048576) (v : Bool) (hv0 : paB es m p = v) :
    Calls Try.prog 58 #[.slice A es.length c, .int .i64 m, .int .i64 p] w fun e w' => e = .returned (.bool v) ∧ Below w.heap.size w w' := by
  subst hv0
  have hv : Hid (paB es m p = (logsB es && (inB m 1 999 && inB p 0 8))) := Lib.hid rfl
  cases q1 : logsB es <;> cases q2 : inB m 1 999 <;> cases q3 : inB p 0 8 <;>
  · go_enter Try.func58, Try.ntmps58
    go_wp2_with (first | (go_at_call 63; (with_reducible refine (iAreLogs_v es A c _ hr hl _ q1).mono ?_); rintro e w1 ⟨rfl, hb1⟩) | (go_at_call 87; (with_reducible refine (within_v m 1 999 _ _ q2).mono ?_); rintro e w' ⟨rfl, rfl⟩) | (go_at_call 87; (with_reducible refine (within_v p 0 8 _ _ q3).mono ?_); rintro e w' ⟨rfl, rfl⟩))
    go_ret
    exact ⟨by rw [hv.out, q1, q2, q3]; rfl, hb1⟩





end Go.Proofs.Ytgglofcjifmbjaa
