/-
  Contracts of FaultCounts, FirstFault and MostSuspect, in the reference and in the program. The conditions are bounds on lengths.
-/
import Derived.Test.YteajjbfecpffeaaLine
import Derived.Test.YteajjbfecpffeaaPureG
namespace Go.Proofs.Yteajjbfecpffeaa
open Go.RowKit Go.ChangeShapes Go.WideShapes
set_option linter.unusedVariables false
set_option linter.unusedSimpArgs false

def fcM (es : List (List Ent)) : List Int := fcTo (lfL es) es.length (lfL es).length
theorem fcM_len (es : List (List Ent)) : (fcM es).length = es.length := fcTo_len _ _ _
theorem fcM_nn (es : List (List Ent)) : ∀ k (_ : k < (fcM es).length), 0 ≤ (fcM es)[k] := fun k hk => (fcTo_bd _ _ _ _ hk).1
theorem ret_iib {a b a' b' : Int} {c c' : Bool} (h1 : a = a') (h2 : b = b') (h3 : c = c') : Ending.returned (.tuple #[.int .i64 a, .int .i64 b, .bool c]) = .returned (.tuple #[.int .i64 a', .int .i64 b', .bool c']) := by rw [h1, h2, h3]





set_option maxHeartbeats 2000000 in
theorem sFirstFault_any (es : List (List Ent)) (A : Option Addr) (c : Nat) (m p : Int) {l h : Nat} (w : World) (hr0 : RdEE w l h A es) (hl : esszL es ≤ 1048576) :
    Calls Try.prog 22 #[.slice A es.length c, .int .i64 m, .int .i64 p] w fun e w' => e = .returned (.tuple #[.int .i64 (ffK es m p), .int .i64 (ffT es m p), .bool (ffB es m p)]) ∧ Below w.heap.size w w' := by
  have hr := hr0.std
  clear hr0
  cases q : paB es m p with
  | false =>
    have hv := Lib.hid (ff_bad q)
    go_enter Try.func22, Try.ntmps22
    go_wp2_with (go_at_call 60; (with_reducible refine (auAsked_v es A c m p _ hr hl _ q).mono ?_); rintro e w1 ⟨rfl, hb1⟩)
    go_ret3
    exact ⟨ret_iib hv.out.2.1.symm hv.out.2.2.symm hv.out.1.symm, hb1⟩
  | true =>
    have hg := (paB_log q).1
    have hll := lfL_len hg
    have hlr : ((lfL es).length : Int) ≤ 720 := by omega
    go_enter Try.func22, Try.ntmps22
    go_wp2_with fail
    (with_reducible refine (auAsked_v es A c m p _ hr hl _ q).mono ?_)
    rintro e w1 ⟨rfl, hb1⟩
    have sz := hb1.size
    go_wp2_with fail
    (with_reducible refine (auLine_any es A c _ (hr.st hb1) hl hg).mono ?_)
    rintro e w2 ⟨A3, c3, rfl, ho3, hb2⟩
    have hrd := ho3.rd'.std
    have hB2 := hb1.trans (hb2.mono sz)
    clear hb2 ho3
    go_wp2
    go_loopw [19] (fun i wr => ∃ k : Nat, k ≤ (lfL es).length ∧ i = .int .i64 k ∧ (∀ j (h3 : j < (lfL es).length), j < k → ffQ (lfL es)[j] m p = false) ∧ Below w2.heap.size w2 wr) (fun i _ => (lfL es).length - (intOf i).toNat)
    case atStart => exact ⟨0, Nat.zero_le _, rfl, fun j _ h => absurd h (by omega), Below.refl _ _⟩
    case round =>
      obtain ⟨k, hk, rfl, hall, hbr⟩ := hrel
      have hallH := Lib.hid hall
      clear hall
      by_cases hlt : k < (lfL es).length
      · obtain ⟨b, off, rfl, _, _, hc⟩ := (hrd.below hbr (Nat.le_refl _)) (by omega)
        obtain ⟨A4, c4, x0, r4⟩ := hc k hlt
        obtain ⟨m0, p0, q0, i0, heq, hi0⟩ := lfL_at hlt
        rw [heq] at x0 r4
        obtain ⟨b4, off4, rfl, _, _, hc4⟩ := r4 (by simp)
        have y0 := hc4 0 (by simp)
        have y1 := hc4 1 (by simp)
        have y2 := hc4 2 (by simp)
        have y3 := hc4 3 (by simp)
        simp at y0 y1 y2 y3 x0
        have heqH := Lib.hid heq
        clear hc hc4 r4 heq
        by_cases e0 : m0 = m
        · by_cases e1 : p0 = p
          · have hx := Lib.hid (ff_some q ((ffX_at hlt (by rw [heqH.out, ffQ_at]; simp [e0, e1]) hallH.out).trans (by rw [heqH.out])))
            have t0 : (m0 == m) = true := by simp [e0]
            have t1 : (p0 == p) = true := by simp [e1]
            clear e0 e1
            go_wp2
            go_quiet (fail)
            go_wp2
            go_ret3
            exact ⟨ret_iib hx.out.2.1.symm hx.out.2.2.symm hx.out.1.symm, hB2.trans (below_drewN (hbr.mono (by have := hB2.size; omega)) _)⟩
          · have t0 : (m0 == m) = true := by simp [e0]
            have t1 : (p0 == p) = false := by simp [e1]
            have e1H := Lib.hid e1
            clear e0 e1
            have hnq := Lib.hid (show ffQ (lfL es)[k] m p = false by rw [heqH.out, ffQ_at]; simp; intro _; exact e1H.out)
            go_wp2
            go_roundw
            case rel => exact ⟨k + 1, by omega, by go_num, fun j h2 h3 => by
              by_cases hj : j = k
              · subst hj; exact hnq.out
              · exact hallH.out j h2 (by omega), hbr⟩
            case measure => simp [intOf]; omega
        · have t0 : (m0 == m) = false := by simp [e0]
          have e0H := Lib.hid e0
          clear e0
          have hnq := Lib.hid (show ffQ (lfL es)[k] m p = false by rw [heqH.out, ffQ_at]; simp; intro h; exact absurd h e0H.out)
          go_wp2
          go_roundw
          case rel => exact ⟨k + 1, by omega, by go_num, fun j h2 h3 => by
            by_cases hj : j = k
            · subst hj; exact hnq.out
            · exact hallH.out j h2 (by omega), hbr⟩
          case measure => simp [intOf]; omega
      · have hx := Lib.hid (ff_none q (ffX_no fun j h3 => hallH.out j h3 (by omega)))
        go_wp2
        go_ret3
        exact ⟨ret_iib hx.out.2.1.symm hx.out.2.2.symm hx.out.1.symm, hB2.trans (hbr.mono (by have := hB2.size; omega))⟩

set_option maxHeartbeats 2000000 in
theorem iFirstFault_any (es : List (List Ent)) (A : Option Addr) (c : Nat) (m p : Int) {l h : Nat} (w : World) (hr0 : RdEE w l h A es) (hl : esszL es ≤ 1048576) :
    Calls Try.prog 21 #[.slice A es.length c, .int .i64 m, .int .i64 p] w fun e w' => e = .returned (.tuple #[.int .i64 (ffK es m p), .int .i64 (ffT es m p), .bool (ffB es m p)]) ∧ Below w.heap.size w w' := by
  have hr := hr0.std
  clear hr0
  cases q : paB es m p with
  | false =>
    have hv := Lib.hid (ff_bad q)
    go_enter Try.func21, Try.ntmps21
    go_wp2_with (go_at_call 57; (with_reducible refine (partAsked_v es A c m p _ hr hl _ q).mono ?_); rintro e w1 ⟨rfl, hb1⟩)
    go_ret3
    exact ⟨ret_iib hv.out.2.1.symm hv.out.2.2.symm hv.out.1.symm, hb1⟩
  | true =>
    have hg := (paB_log q).1
    have hll := lfL_len hg
    have hlr : ((lfL es).length : Int) ≤ 720 := by omega
    go_enter Try.func21, Try.ntmps21
    go_wp2_with fail
    (with_reducible refine (partAsked_v es A c m p _ hr hl _ q).mono ?_)
    rintro e w1 ⟨rfl, hb1⟩
    have sz := hb1.size
    go_wp2_with fail
    (with_reducible refine (lineFaults_any es A c _ (hr.st hb1) hl hg).mono ?_)
    rintro e w2 ⟨A3, c3, rfl, ho3, hb2⟩
    have hrd := ho3.rd'.std
    have hB2 := hb1.trans (hb2.mono sz)
    clear hb2 ho3
    go_wp2
    go_loopw [19] (fun i wr => ∃ k : Nat, k ≤ (lfL es).length ∧ i = .int .i64 k ∧ (∀ j (h3 : j < (lfL es).length), j < k → ffQ (lfL es)[j] m p = false) ∧ Below w2.heap.size w2 wr) (fun i _ => (lfL es).length - (intOf i).toNat)
    case atStart => exact ⟨0, Nat.zero_le _, rfl, fun j _ h => absurd h (by omega), Below.refl _ _⟩
    case round =>
      obtain ⟨k, hk, rfl, hall, hbr⟩ := hrel
      have hallH := Lib.hid hall
      clear hall
      by_cases hlt : k < (lfL es).length
      · obtain ⟨b, off, rfl, _, _, hc⟩ := (hrd.below hbr (Nat.le_refl _)) (by omega)
        obtain ⟨A4, c4, x0, r4⟩ := hc k hlt
        obtain ⟨m0, p0, q0, i0, heq, hi0⟩ := lfL_at hlt
        rw [heq] at x0 r4
        obtain ⟨b4, off4, rfl, _, _, hc4⟩ := r4 (by simp)
        have y0 := hc4 0 (by simp)
        have y1 := hc4 1 (by simp)
        have y2 := hc4 2 (by simp)
        have y3 := hc4 3 (by simp)
        simp at y0 y1 y2 y3 x0
        have heqH := Lib.hid heq
        clear hc hc4 r4 heq
        by_cases e0 : m0 = m
        · by_cases e1 : p0 = p
          · have hx := Lib.hid (ff_some q ((ffX_at hlt (by rw [heqH.out, ffQ_at]; simp [e0, e1]) hallH.out).trans (by rw [heqH.out])))
            have t0 : (m0 == m) = true := by simp [e0]
            have t1 : (p0 == p) = true := by simp [e1]
            clear e0 e1
            go_wp2
            go_quiet (fail)
            go_wp2
            go_ret3
            exact ⟨ret_iib hx.out.2.1.symm hx.out.2.2.symm hx.out.1.symm, hB2.trans (below_drewN (hbr.mono (by have := hB2.size; omega)) _)⟩
          · have t0 : (m0 == m) = true := by simp [e0]
            have t1 : (p0 == p) = false := by simp [e1]
            have e1H := Lib.hid e1
            clear e0 e1
            have hnq := Lib.hid (show ffQ (lfL es)[k] m p = false by rw [heqH.out, ffQ_at]; simp; intro _; exact e1H.out)
            go_wp2
            go_roundw
            case rel => exact ⟨k + 1, by omega, by go_num, fun j h2 h3 => by
              by_cases hj : j = k
              · subst hj; exact hnq.out
              · exact hallH.out j h2 (by omega), hbr⟩
            case measure => simp [intOf]; omega
        · have t0 : (m0 == m) = false := by simp [e0]
          have e0H := Lib.hid e0
          clear e0
          have hnq := Lib.hid (show ffQ (lfL es)[k] m p = false by rw [heqH.out, ffQ_at]; simp; intro h; exact absurd h e0H.out)
          go_wp2
          go_roundw
          case rel => exact ⟨k + 1, by omega, by go_num, fun j h2 h3 => by
            by_cases hj : j = k
            · subst hj; exact hnq.out
            · exact hallH.out j h2 (by omega), hbr⟩
          case measure => simp [intOf]; omega
      · have hx := Lib.hid (ff_none q (ffX_no fun j h3 => hallH.out j h3 (by omega)))
        go_wp2
        go_ret3
        exact ⟨ret_iib hx.out.2.1.symm hx.out.2.2.symm hx.out.1.symm, hB2.trans (hbr.mono (by have := hB2.size; omega))⟩

end Go.Proofs.Yteajjbfecpffeaa
