/-
  Contracts of FaultCounts, FirstFault and MostSuspect, in the reference and in the program. The conditions are bounds on lengths.
-/
import Derived.Test.YtgglofcjifmbjaaLine
import Derived.Test.YtgglofcjifmbjaaPureG
namespace Go.Proofs.Ytgglofcjifmbjaa
open Go.RowKit Go.ChangeShapes Go.WideShapes
set_option linter.unusedVariables false
set_option linter.unusedSimpArgs false

def fcM (es : List (List Ent)) : List Int := fcTo (lfL es) es.length (lfL es).length
theorem fcM_len (es : List (List Ent)) : (fcM es).length = es.length := fcTo_len _ _ _
theorem fcM_nn (es : List (List Ent)) : ∀ k (_ : k < (fcM es).length), 0 ≤ (fcM es)[k] := fun k hk => (fcTo_bd _ _ _ _ hk).1
theorem ret_iib {a b a' b' : Int} {c c' : Bool} (h1 : a = a') (h2 : b = b') (h3 : c = c') : Ending.returned (.tuple #[.int .i64 a, .int .i64 b, .bool c]) = .returned (.tuple #[.int .i64 a', .int .i64 b', .bool c']) := by rw [h1, h2, h3]

set_option maxHeartbeats 2000000 in
theorem auCounts_any (es : List (List Ent)) (A : Option Addr) (c : Nat) {l h : Nat} (w : World) (hr0 : RdEE w l h A es) (hl : esszL es ≤ 1048576) (hg : logsB es = true) :
    Calls Try.prog 65 #[.slice A es.length c] w fun e w' => ∃ A c, e = .returned (.slice A (fcM es).length c) ∧ Own w' w.heap.size w'.heap.size (.slice A (fcM es).length c) (fcM es) ∧ Below w.heap.size w w' := by
  have hr := hr0.std
  clear hr0
  have hel := essz_len es
  have hll := lfL_len hg
  have hlenH := Lib.hid (fcM_len es)
  have hlr : ((lfL es).length : Int) ≤ 720 := by omega
  go_enter Try.func65, Try.ntmps65
  go_wp2_with (at_make; refine wp_make_ints rfl _ _ rfl es.length rfl rfl (by omega) ?_; intro w1 hown1 hb1 hs1)
  have hgeq : w.heap.size ≤ w1.heap.size := by omega
  refine (auLine_any es A c _ (hr.st hb1) hl hg).mono ?_
  rintro e w2 ⟨A3, c3, rfl, ho3, hb2⟩
  have ho1 : Hid (Own w2 w.heap.size (w.heap.size + 1) (.slice (some ⟨w.heap.size, 0, none⟩) es.length es.length) (fcTo (lfL es) es.length 0)) := by
    show Own _ _ _ _ _
    rw [fcTo_zero]
    exact (hown1.mono (Nat.le_refl _) (by omega)).st hb2
  have hrd : RdI w2 (w.heap.size + 1) w2.heap.size A3 (lfL es) := ho3.rd'.mono (by omega) (Nat.le_refl _)
  have hB2 := hb1.trans (hb2.mono hgeq)
  have hs2 : w.heap.size + 1 ≤ w2.heap.size := by have := hb2.size; omega
  clear hown1 hs1 hb2 hb1 ho3
  go_wp2
  go_loopw [12] (fun i wr => ∃ k : Nat, k ≤ (lfL es).length ∧ i = .int .i64 k ∧ Own wr w.heap.size (w.heap.size + 1) (.slice (some ⟨w.heap.size, 0, none⟩) es.length es.length) (fcTo (lfL es) es.length k) ∧ Fr w.heap.size (w.heap.size + 1) w2 wr ∧ wr.heap.size = w2.heap.size) (fun i _ => (lfL es).length - (intOf i).toNat)
  case atStart => exact ⟨0, Nat.zero_le _, rfl, ho1.out, Fr.refl _ _ _, rfl⟩
  case round =>
    clear ho1
    obtain ⟨k, hk, rfl, hown, hfr, hsr⟩ := hrel
    by_cases hlt : k < (lfL es).length
    · obtain ⟨b, off, rfl, _, _, hc⟩ := (hrd.fr hfr (.inr (Nat.le_refl _))) (by omega)
      obtain ⟨A4, c4, x0, r4⟩ := hc k hlt
      obtain ⟨m0, p0, q0, i0, heq, hi0⟩ := lfL_at hlt
      rw [heq] at x0 r4
      obtain ⟨b4, off4, rfl, _, _, hc4⟩ := r4 (by simp)
      have x3 := hc4 3 (by simp)
      simp at x3 x0
      have hci : i0 < (fcTo (lfL es) es.length k).length := by rw [fcTo_len]; exact hi0
      have hst := Lib.hid (fcTo_succ hlt hi0 (by rw [heq]; rfl) hci)
      have hbd := fcTo_bd (lfL es) es.length k i0 hci
      obtain ⟨g, c', he, _, _, g3, hcell, hfz⟩ := hown.at_ (by rw [fcTo_len]; omega)
      injection he with e1 e2 e3
      injection e1 with e1
      injection e1 with e1 e4
      subst e1
      have hf := hfz i0
      have hcd := hcell i0 hci
      generalize hcv : (fcTo (lfL es) es.length k)[i0] = cv at *
      have hst2 := Lib.hid (hown.stored (j := i0) (cv + 1))
      have hfr2 := Lib.hid (hfr.setCell (p := ⟨w.heap.size, i0, none⟩) ⟨Nat.le_refl _, Nat.lt_succ_self _⟩ (.int .i64 (cv + 1)))
      have hsH := Lib.hid hsr
      clear hcell hfz e2 e3 e4 hown hfr hc hc4 r4 heq hcv hci hsr
      go_wp2
      go_roundw
      case rel => exact ⟨k + 1, by omega, by go_num, by rw [← hst.out]; exact hst2.out, hfr2.out, by rw [size_setCell]; exact hsH.out⟩
      case measure => simp [intOf]; omega
    · obtain rfl : k = (lfL es).length := by omega
      have ho : Hid (Own wr w.heap.size wr.heap.size (.slice (some ⟨w.heap.size, 0, none⟩) (fcM es).length es.length) (fcM es)) := Lib.hid (by rw [hlenH.out]; exact hown.mono (Nat.le_refl _) (by omega))
      have hB := Lib.hid (hB2.trans (hfr.below (Nat.le_refl _) (by omega)))
      clear hown hfr
      go_wp2
      go_ret
      exact ⟨_, _, by rw [hlenH.out]; rfl, ho.out, hB.out⟩

set_option maxHeartbeats 2000000 in
theorem faultCounts_any (es : List (List Ent)) (A : Option Addr) (c : Nat) {l h : Nat} (w : World) (hr0 : RdEE w l h A es) (hl : esszL es ≤ 1048576) (hg : logsB es = true) :
    Calls Try.prog 66 #[.slice A es.length c] w fun e w' => ∃ A c, e = .returned (.slice A (fcM es).length c) ∧ Own w' w.heap.size w'.heap.size (.slice A (fcM es).length c) (fcM es) ∧ Below w.heap.size w w' := by
  have hr := hr0.std
  clear hr0
  have hel := essz_len es
  have hll := lfL_len hg
  have hlenH := Lib.hid (fcM_len es)
  have hlr : ((lfL es).length : Int) ≤ 720 := by omega
  go_enter Try.func66, Try.ntmps66
  go_wp2_with (at_make; refine wp_make_ints rfl _ _ rfl es.length rfl rfl (by omega) ?_; intro w1 hown1 hb1 hs1)
  have hgeq : w.heap.size ≤ w1.heap.size := by omega
  refine (lineFaults_any es A c _ (hr.st hb1) hl hg).mono ?_
  rintro e w2 ⟨A3, c3, rfl, ho3, hb2⟩
  have ho1 : Hid (Own w2 w.heap.size (w.heap.size + 1) (.slice (some ⟨w.heap.size, 0, none⟩) es.length es.length) (fcTo (lfL es) es.length 0)) := by
    show Own _ _ _ _ _
    rw [fcTo_zero]
    exact (hown1.mono (Nat.le_refl _) (by omega)).st hb2
  have hrd : RdI w2 (w.heap.size + 1) w2.heap.size A3 (lfL es) := ho3.rd'.mono (by omega) (Nat.le_refl _)
  have hB2 := hb1.trans (hb2.mono hgeq)
  have hs2 : w.heap.size + 1 ≤ w2.heap.size := by have := hb2.size; omega
  clear hown1 hs1 hb2 hb1 ho3
  go_wp2
  go_loopw [12] (fun i wr => ∃ k : Nat, k ≤ (lfL es).length ∧ i = .int .i64 k ∧ Own wr w.heap.size (w.heap.size + 1) (.slice (some ⟨w.heap.size, 0, none⟩) es.length es.length) (fcTo (lfL es) es.length k) ∧ Fr w.heap.size (w.heap.size + 1) w2 wr ∧ wr.heap.size = w2.heap.size) (fun i _ => (lfL es).length - (intOf i).toNat)
  case atStart => exact ⟨0, Nat.zero_le _, rfl, ho1.out, Fr.refl _ _ _, rfl⟩
  case round =>
    clear ho1
    obtain ⟨k, hk, rfl, hown, hfr, hsr⟩ := hrel
    by_cases hlt : k < (lfL es).length
    · obtain ⟨b, off, rfl, _, _, hc⟩ := (hrd.fr hfr (.inr (Nat.le_refl _))) (by omega)
      obtain ⟨A4, c4, x0, r4⟩ := hc k hlt
      obtain ⟨m0, p0, q0, i0, heq, hi0⟩ := lfL_at hlt
      rw [heq] at x0 r4
      obtain ⟨b4, off4, rfl, _, _, hc4⟩ := r4 (by simp)
      have x3 := hc4 3 (by simp)
      simp at x3 x0
      have hci : i0 < (fcTo (lfL es) es.length k).length := by rw [fcTo_len]; exact hi0
      have hst := Lib.hid (fcTo_succ hlt hi0 (by rw [heq]; rfl) hci)
      have hbd := fcTo_bd (lfL es) es.length k i0 hci
      obtain ⟨g, c', he, _, _, g3, hcell, hfz⟩ := hown.at_ (by rw [fcTo_len]; omega)
      injection he with e1 e2 e3
      injection e1 with e1
      injection e1 with e1 e4
      subst e1
      have hf := hfz i0
      have hcd := hcell i0 hci
      generalize hcv : (fcTo (lfL es) es.length k)[i0] = cv at *
      have hst2 := Lib.hid (hown.stored (j := i0) (cv + 1))
      have hfr2 := Lib.hid (hfr.setCell (p := ⟨w.heap.size, i0, none⟩) ⟨Nat.le_refl _, Nat.lt_succ_self _⟩ (.int .i64 (cv + 1)))
      have hsH := Lib.hid hsr
      clear hcell hfz e2 e3 e4 hown hfr hc hc4 r4 heq hcv hci hsr
      go_wp2
      go_roundw
      case rel => exact ⟨k + 1, by omega, by go_num, by rw [← hst.out]; exact hst2.out, hfr2.out, by rw [size_setCell]; exact hsH.out⟩
      case measure => simp [intOf]; omega
    · obtain rfl : k = (lfL es).length := by omega
      have ho : Hid (Own wr w.heap.size wr.heap.size (.slice (some ⟨w.heap.size, 0, none⟩) (fcM es).length es.length) (fcM es)) := Lib.hid (by rw [hlenH.out]; exact hown.mono (Nat.le_refl _) (by omega))
      have hB := Lib.hid (hB2.trans (hfr.below (Nat.le_refl _) (by omega)))
      clear hown hfr
      go_wp2
      go_ret
      exact ⟨_, _, by rw [hlenH.out]; rfl, ho.out, hB.out⟩

set_option maxHeartbeats 1000000 in
theorem sFaultCounts_any (es : List (List Ent)) (A : Option Addr) (c : Nat) {l h : Nat} (w : World) (hr0 : RdEE w l h A es) (hl : esszL es ≤ 1048576) :
    Calls Try.prog 36 #[.slice A es.length c] w fun e w' => ∃ A c, e = .returned (.tuple #[.slice A (fcL es).length c, .bool (logsB es)]) ∧ Rd w' 0 w'.heap.size A (fcL es) ∧ (fcL es).length ≤ 1048576 ∧ Below w.heap.size w w' := by
  have hr := hr0.std
  clear hr0
  have hel := essz_len es
  cases q1 : logsB es with
  | false =>
    rw [fcL_no q1]
    go_enter Try.func36, Try.ntmps36
    go_wp2_with (go_at_call 61; (with_reducible refine (auGood_w es A c _ hr hl _ q1).mono ?_); rintro e w1 ⟨rfl, hb1⟩)
    go_ret2
    (first | exact ⟨none, 0, rfl, Rd.nil, by simp, hb1⟩ | exact ⟨none, 0, rfl, Rd.nil, hb1⟩)
  | true =>
    rw [show fcL es = fcM es from fcL_yes q1]
    have hlenH := Lib.hid (fcM_len es)
    go_enter Try.func36, Try.ntmps36
    go_wp2_with fail
    (with_reducible refine (auGood_w es A c _ hr hl _ q1).mono ?_)
    rintro e w1 ⟨rfl, hb1⟩
    have sz := hb1.size
    go_wp2_with fail
    (with_reducible refine (auCounts_any es A c _ (hr.st hb1) hl q1).mono ?_)
    rintro e w3 ⟨A3, c3, rfl, ho3, hb3⟩
    have hB := hb1.trans (hb3.mono sz)
    clear hb3
    go_wp2
    go_ret2
    exact ⟨_, _, rfl, ho3.rd'.std, by rw [hlenH.out]; omega, hB⟩

set_option maxHeartbeats 1000000 in
theorem iFaultCounts_any (es : List (List Ent)) (A : Option Addr) (c : Nat) {l h : Nat} (w : World) (hr0 : RdEE w l h A es) (hl : esszL es ≤ 1048576) :
    Calls Try.prog 37 #[.slice A es.length c] w fun e w' => ∃ A c, e = .returned (.tuple #[.slice A (fcL es).length c, .bool (logsB es)]) ∧ Own w' w.heap.size w'.heap.size (.slice A (fcL es).length c) (fcL es) ∧ (fcL es).length ≤ 1048576 ∧ Below w.heap.size w w' := by
  have hr := hr0.std
  clear hr0
  have hel := essz_len es
  cases q1 : logsB es with
  | false =>
    rw [fcL_no q1]
    go_enter Try.func37, Try.ntmps37
    go_wp2_with (go_at_call 63; (with_reducible refine (iAreLogs_w es A c _ hr hl _ q1).mono ?_); rintro e w1 ⟨rfl, hb1⟩)
    go_ret2
    (first | exact ⟨none, 0, rfl, Own.nil, by simp, hb1⟩ | exact ⟨none, 0, rfl, Own.nil, hb1⟩)
  | true =>
    rw [show fcL es = fcM es from fcL_yes q1]
    have hlenH := Lib.hid (fcM_len es)
    go_enter Try.func37, Try.ntmps37
    go_wp2_with fail
    (with_reducible refine (iAreLogs_w es A c _ hr hl _ q1).mono ?_)
    rintro e w1 ⟨rfl, hb1⟩
    have sz := hb1.size
    go_wp2_with fail
    (with_reducible refine (faultCounts_any es A c _ (hr.st hb1) hl q1).mono ?_)
    rintro e w3 ⟨A3, c3, rfl, ho3, hb3⟩
    have hB := hb1.trans (hb3.mono sz)
    clear hb3
    go_wp2
    go_ret2
    exact ⟨_, _, rfl, ho3.mono (by omega) (Nat.le_refl _), by rw [hlenH.out]; omega, hB⟩

set_option maxHeartbeats 2000000 in
theorem sFirstFault_any (es : List (List Ent)) (A : Option Addr) (c : Nat) (m p : Int) {l h : Nat} (w : World) (hr0 : RdEE w l h A es) (hl : esszL es ≤ 1048576) :
    Calls Try.prog 32 #[.slice A es.length c, .int .i64 m, .int .i64 p] w fun e w' => e = .returned (.tuple #[.int .i64 (ffK es m p), .int .i64 (ffT es m p), .bool (ffB es m p)]) ∧ Below w.heap.size w w' := by
  have hr := hr0.std
  clear hr0
  cases q : paB es m p with
  | false =>
    have hv := Lib.hid (ff_bad q)
    go_enter Try.func32, Try.ntmps32
    go_wp2_with (go_at_call 55; (with_reducible refine (auAsked_v es A c m p _ hr hl _ q).mono ?_); rintro e w1 ⟨rfl, hb1⟩)
    go_ret3
    exact ⟨ret_iib hv.out.2.1.symm hv.out.2.2.symm hv.out.1.symm, hb1⟩
  | true =>
    have hg := (paB_log q).1
    have hll := lfL_len hg
    have hlr : ((lfL es).length : Int) ≤ 720 := by omega
    go_enter Try.func32, Try.ntmps32
    go_wp2_with fail
    (with_reducible refine (auAsked_v es A c m p _ hr hl _ q).mono ?_)
    rintro e w1 ⟨rfl, hb1⟩
    have sz := hb1.size
    go_wp2_with fail
    (with_reducible refine (auLine_any es A c _ (hr.st hb1) hl hg).mono ?_)
    rintro e w2 ⟨A3, c3, rfl, ho3, hb2⟩
    have hrd := ho3.rd'.std
    have hB2 := hb1.trans (hb2.mono sz)
    clear hb2 ho3
    go_wp2
    go_loopw [19] (fun i wr => ∃ k : Nat, k ≤ (lfL es).length ∧ i = .int .i64 k ∧ (∀ j (h3 : j < (lfL es).length), j < k → ffQ (lfL es)[j] m p = false) ∧ Below w2.heap.size w2 wr) (fun i _ => (lfL es).length - (intOf i).toNat)
    case atStart => exact ⟨0, Nat.zero_le _, rfl, fun j _ h => absurd h (by omega), Below.refl _ _⟩
    case round =>
      obtain ⟨k, hk, rfl, hall, hbr⟩ := hrel
      have hallH := Lib.hid hall
      clear hall
      by_cases hlt : k < (lfL es).length
      · obtain ⟨b, off, rfl, _, _, hc⟩ := (hrd.below hbr (Nat.le_refl _)) (by omega)
        obtain ⟨A4, c4, x0, r4⟩ := hc k hlt
        obtain ⟨m0, p0, q0, i0, heq, hi0⟩ := lfL_at hlt
        rw [heq] at x0 r4
        obtain ⟨b4, off4, rfl, _, _, hc4⟩ := r4 (by simp)
        have y0 := hc4 0 (by simp)
        have y1 := hc4 1 (by simp)
        have y2 := hc4 2 (by simp)
        have y3 := hc4 3 (by simp)
        simp at y0 y1 y2 y3 x0
        have heqH := Lib.hid heq
        clear hc hc4 r4 heq
        by_cases e0 : m0 = m
        · by_cases e1 : p0 = p
          · have hx := Lib.hid (ff_some q ((ffX_at hlt (by rw [heqH.out, ffQ_at]; simp [e0, e1]) hallH.out).trans (by rw [heqH.out])))
            have t0 : (m0 == m) = true := by simp [e0]
            have t1 : (p0 == p) = true := by simp [e1]
            clear e0 e1
            go_wp2
            go_quiet (fail)
            go_wp2
            go_ret3
            exact ⟨ret_iib hx.out.2.1.symm hx.out.2.2.symm hx.out.1.symm, hB2.trans (below_drewN (hbr.mono (by have := hB2.size; omega)) _)⟩
          · have t0 : (m0 == m) = true := by simp [e0]
            have t1 : (p0 == p) = false := by simp [e1]
            have e1H := Lib.hid e1
            clear e0 e1
            have hnq := Lib.hid (show ffQ (lfL es)[k] m p = false by rw [heqH.out, ffQ_at]; simp; intro _; exact e1H.out)
            go_wp2
            go_roundw
            case rel => exact ⟨k + 1, by omega, by go_num, fun j h2 h3 => by
              by_cases hj : j = k
              · subst hj; exact hnq.out
              · exact hallH.out j h2 (by omega), hbr⟩
            case measure => simp [intOf]; omega
        · have t0 : (m0 == m) = false := by simp [e0]
          have e0H := Lib.hid e0
          clear e0
          have hnq := Lib.hid (show ffQ (lfL es)[k] m p = false by rw [heqH.out, ffQ_at]; simp; intro h; exact absurd h e0H.out)
          go_wp2
          go_roundw
          case rel => exact ⟨k + 1, by omega, by go_num, fun j h2 h3 => by
            by_cases hj : j = k
            · subst hj; exact hnq.out
            · exact hallH.out j h2 (by omega), hbr⟩
          case measure => simp [intOf]; omega
      · have hx := Lib.hid (ff_none q (ffX_no fun j h3 => hallH.out j h3 (by omega)))
        go_wp2
        go_ret3
        exact ⟨ret_iib hx.out.2.1.symm hx.out.2.2.symm hx.out.1.symm, hB2.trans (hbr.mono (by have := hB2.size; omega))⟩

set_option maxHeartbeats 2000000 in
theorem iFirstFault_any (es : List (List Ent)) (A : Option Addr) (c : Nat) (m p : Int) {l h : Nat} (w : World) (hr0 : RdEE w l h A es) (hl : esszL es ≤ 1048576) :
    Calls Try.prog 33 #[.slice A es.length c, .int .i64 m, .int .i64 p] w fun e w' => e = .returned (.tuple #[.int .i64 (ffK es m p), .int .i64 (ffT es m p), .bool (ffB es m p)]) ∧ Below w.heap.size w w' := by
  have hr := hr0.std
  clear hr0
  cases q : paB es m p with
  | false =>
    have hv := Lib.hid (ff_bad q)
    go_enter Try.func33, Try.ntmps33
    go_wp2_with (go_at_call 58; (with_reducible refine (partAsked_v es A c m p _ hr hl _ q).mono ?_); rintro e w1 ⟨rfl, hb1⟩)
    go_ret3
    exact ⟨ret_iib hv.out.2.1.symm hv.out.2.2.symm hv.out.1.symm, hb1⟩
  | true =>
    have hg := (paB_log q).1
    have hll := lfL_len hg
    have hlr : ((lfL es).length : Int) ≤ 720 := by omega
    go_enter Try.func33, Try.ntmps33
    go_wp2_with fail
    (with_reducible refine (partAsked_v es A c m p _ hr hl _ q).mono ?_)
    rintro e w1 ⟨rfl, hb1⟩
    have sz := hb1.size
    go_wp2_with fail
    (with_reducible refine (lineFaults_any es A c _ (hr.st hb1) hl hg).mono ?_)
    rintro e w2 ⟨A3, c3, rfl, ho3, hb2⟩
    have hrd := ho3.rd'.std
    have hB2 := hb1.trans (hb2.mono sz)
    clear hb2 ho3
    go_wp2
    go_loopw [19] (fun i wr => ∃ k : Nat, k ≤ (lfL es).length ∧ i = .int .i64 k ∧ (∀ j (h3 : j < (lfL es).length), j < k → ffQ (lfL es)[j] m p = false) ∧ Below w2.heap.size w2 wr) (fun i _ => (lfL es).length - (intOf i).toNat)
    case atStart => exact ⟨0, Nat.zero_le _, rfl, fun j _ h => absurd h (by omega), Below.refl _ _⟩
    case round =>
      obtain ⟨k, hk, rfl, hall, hbr⟩ := hrel
      have hallH := Lib.hid hall
      clear hall
      by_cases hlt : k < (lfL es).length
      · obtain ⟨b, off, rfl, _, _, hc⟩ := (hrd.below hbr (Nat.le_refl _)) (by omega)
        obtain ⟨A4, c4, x0, r4⟩ := hc k hlt
        obtain ⟨m0, p0, q0, i0, heq, hi0⟩ := lfL_at hlt
        rw [heq] at x0 r4
        obtain ⟨b4, off4, rfl, _, _, hc4⟩ := r4 (by simp)
        have y0 := hc4 0 (by simp)
        have y1 := hc4 1 (by simp)
        have y2 := hc4 2 (by simp)
        have y3 := hc4 3 (by simp)
        simp at y0 y1 y2 y3 x0
        have heqH := Lib.hid heq
        clear hc hc4 r4 heq
        by_cases e0 : m0 = m
        · by_cases e1 : p0 = p
          · have hx := Lib.hid (ff_some q ((ffX_at hlt (by rw [heqH.out, ffQ_at]; simp [e0, e1]) hallH.out).trans (by rw [heqH.out])))
            have t0 : (m0 == m) = true := by simp [e0]
            have t1 : (p0 == p) = true := by simp [e1]
            clear e0 e1
            go_wp2
            go_quiet (fail)
            go_wp2
            go_ret3
            exact ⟨ret_iib hx.out.2.1.symm hx.out.2.2.symm hx.out.1.symm, hB2.trans (below_drewN (hbr.mono (by have := hB2.size; omega)) _)⟩
          · have t0 : (m0 == m) = true := by simp [e0]
            have t1 : (p0 == p) = false := by simp [e1]
            have e1H := Lib.hid e1
            clear e0 e1
            have hnq := Lib.hid (show ffQ (lfL es)[k] m p = false by rw [heqH.out, ffQ_at]; simp; intro _; exact e1H.out)
            go_wp2
            go_roundw
            case rel => exact ⟨k + 1, by omega, by go_num, fun j h2 h3 => by
              by_cases hj : j = k
              · subst hj; exact hnq.out
              · exact hallH.out j h2 (by omega), hbr⟩
            case measure => simp [intOf]; omega
        · have t0 : (m0 == m) = false := by simp [e0]
          have e0H := Lib.hid e0
          clear e0
          have hnq := Lib.hid (show ffQ (lfL es)[k] m p = false by rw [heqH.out, ffQ_at]; simp; intro h; exact absurd h e0H.out)
          go_wp2
          go_roundw
          case rel => exact ⟨k + 1, by omega, by go_num, fun j h2 h3 => by
            by_cases hj : j = k
            · subst hj; exact hnq.out
            · exact hallH.out j h2 (by omega), hbr⟩
          case measure => simp [intOf]; omega
      · have hx := Lib.hid (ff_none q (ffX_no fun j h3 => hallH.out j h3 (by omega)))
        go_wp2
        go_ret3
        exact ⟨ret_iib hx.out.2.1.symm hx.out.2.2.symm hx.out.1.symm, hB2.trans (hbr.mono (by have := hB2.size; omega))⟩

set_option maxHeartbeats 1000000 in
theorem Max_any (cs : List Int) (A : Option Addr) (c : Nat) {l h : Nat} (w : World) (hr : Rd w l h A cs) (hl : cs.length ≤ 1048576) (h0 : 0 < cs.length) (hn : ∀ k (_ : k < cs.length), 0 ≤ cs[k]) (v : Int) (hv : mxL cs = v) :
    Calls Try.prog 67 #[.slice A cs.length c] w fun e w' => e = .returned (.int .i64 v) ∧ w = w' := by
  subst hv
  obtain ⟨b, off, rfl, _, _, hc⟩ := hr h0
  have x0 := hc 0 h0
  simp at x0
  have hcH := Lib.hid hc
  clear hc
  go_enter Try.func67, Try.ntmps67
  go_wp2
  go_loop [3, 4] (fun q i => ∃ (k : Nat) (M : Int), 1 ≤ k ∧ k ≤ cs.length ∧ i = .int .i64 k ∧ q = .int .i64 M ∧ (∀ j (h : j < cs.length), j < k → cs[j] ≤ M) ∧ (∃ j, ∃ h : j < cs.length, j < k ∧ cs[j] = M)) (fun _ i => cs.length - (intOf i).toNat)
  case atStart => exact ⟨1, cs[0], Nat.le_refl _, h0, rfl, rfl, fun j h hj => by
    obtain rfl : j = 0 := by omega
    exact Int.le_refl _, 0, h0, by omega, rfl⟩
  case round =>
    obtain ⟨k, M, hk1, hk, rfl, rfl, hall, j0, hj0, hjk, hjM⟩ := hrel
    have hallH := Lib.hid hall
    have hjH := Lib.hid hjM
    clear hall hjM
    by_cases hlt : k < cs.length
    · have x1 := hcH.out k hlt
      by_cases hm : M ≤ cs[k]
      · go_wp2
        go_round
        case rel => exact ⟨k + 1, cs[k], by omega, by omega, by go_num, by simp; (try omega), fun j h hj => by
          by_cases e : j = k
          · subst e; exact Int.le_refl _
          · exact Int.le_trans (hallH.out j h (by omega)) hm, k, hlt, by omega, rfl⟩
        case measure => simp [intOf]; omega
      · go_wp2
        go_round
        case rel => exact ⟨k + 1, M, by omega, by omega, by go_num, by simp; (try omega), fun j h hj => by
          by_cases e : j = k
          · subst e; omega
          · exact hallH.out j h (by omega), j0, hj0, by omega, hjH.out⟩
        case measure => simp [intOf]; omega
    · have hM0 : 0 ≤ M := by have := hn j0 hj0; rw [hjH.out] at this; exact this
      have hq := Lib.hid (mxL_eq (cs := cs) (fun j h => hallH.out j h (by omega)) hM0 (.inr ⟨j0, hj0, hjH.out⟩))
      go_wp2
      go_ret
      exact ⟨by rw [hq.out]; rfl, rfl⟩
set_option maxHeartbeats 2000000 in
theorem sMostSuspect_any (es : List (List Ent)) (A : Option Addr) (c : Nat) {l h : Nat} (w : World) (hr0 : RdEE w l h A es) (hl : esszL es ≤ 1048576) :
    Calls Try.prog 34 #[.slice A es.length c] w fun e w' => e = .returned (.tuple #[.int .i64 (msI es), .int .i64 (msM es), .bool (msB es)]) ∧ Below w.heap.size w w' := by
  have hr := hr0.std
  clear hr0
  cases q : logsB es with
  | false =>
    have hv := Lib.hid (ms_bad q)
    go_enter Try.func34, Try.ntmps34
    go_wp2_with (go_at_call 61; (with_reducible refine (auGood_w es A c _ hr hl _ q).mono ?_); rintro e w1 ⟨rfl, hb1⟩)
    go_ret3
    exact ⟨ret_iib hv.out.2.1.symm hv.out.1.symm hv.out.2.2.symm, hb1⟩
  | true =>
    have hel := essz_len es
    have hlenH := Lib.hid (fcM_len es)
    have hle : (fcM es).length ≤ 1048576 := by rw [fcM_len]; omega
    have hnn := Lib.hid (fcM_nn es)
    go_enter Try.func34, Try.ntmps34
    go_wp2_with fail
    (with_reducible refine (auGood_w es A c _ hr hl _ q).mono ?_)
    rintro e w1 ⟨rfl, hb1⟩
    have sz := hb1.size
    go_wp2_with fail
    (with_reducible refine (auCounts_any es A c _ (hr.st hb1) hl q).mono ?_)
    rintro e w2 ⟨A3, c3, rfl, ho3, hb2⟩
    have hrd := ho3.rd'.std
    have hB2 := hb1.trans (hb2.mono sz)
    clear hb2 ho3
    go_wp2
    go_loop [5, 6, 15] (fun bb mm i => ∃ (k : Nat) (B M : Int), k ≤ (fcM es).length ∧ i = .int .i64 k ∧ bb = .int .i64 B ∧ mm = .int .i64 M ∧ 0 ≤ M ∧ (∀ j (h : j < (fcM es).length), j < k → (fcM es)[j] ≤ M) ∧
      ((M = 0 ∧ B = 0) ∨ (0 < M ∧ ∃ j : Nat, ∃ h : j < (fcM es).length, B = (j : Int) ∧ (fcM es)[j] = M ∧ ∀ i (h2 : i < (fcM es).length), i < j → (fcM es)[i] ≠ M))) (fun _ _ i => (fcM es).length - (intOf i).toNat)
    case atStart => exact ⟨0, 0, 0, Nat.zero_le _, rfl, rfl, rfl, by omega, fun j h hj => absurd hj (by omega), .inl ⟨rfl, rfl⟩⟩
    case round =>
      obtain ⟨k, B, M, hk, rfl, rfl, rfl, hM, hall, hor⟩ := hrel
      have hallH := Lib.hid hall
      have horH := Lib.hid hor
      clear hall hor
      by_cases hlt : k < (fcM es).length
      · obtain ⟨b, off, rfl, _, _, hc⟩ := hrd (by omega)
        have x1 := hc k hlt
        clear hc
        by_cases hm : M < (fcM es)[k]
        · go_wp2
          go_round
          case rel => exact ⟨k + 1, k, (fcM es)[k], by omega, by go_num, rfl, rfl, by omega, fun j h hj => by
            by_cases e : j = k
            · subst e; exact Int.le_refl _
            · have := hallH.out j h (by omega); omega, .inr ⟨by omega, k, hlt, rfl, rfl, fun i h2 h3 => by have := hallH.out i h2 (by omega); omega⟩⟩
          case measure => simp [intOf]; omega
        · go_wp2
          go_round
          case rel => exact ⟨k + 1, B, M, by omega, by go_num, rfl, rfl, hM, fun j h hj => by
            by_cases e : j = k
            · subst e; omega
            · exact hallH.out j h (by omega), horH.out⟩
          case measure => simp [intOf]; omega
      · have hmx : mxL (fcM es) = M := mxL_eq (fun j h => hallH.out j h (by omega)) hM (by
          rcases horH.out with ⟨h, _⟩ | ⟨_, j, h, _, h2, _⟩
          · exact .inl h
          · exact .inr ⟨j, h, h2⟩)
        have hat := ms_at q hmx
        have hv1 := Lib.hid hat.1
        have hv2 := Lib.hid hat.2
        have hv3 : Hid (msI es = B) := Lib.hid (by
          rcases horH.out with ⟨h, h'⟩ | ⟨h0, j, h, h1, h2, h3⟩
          · rw [h']; exact ms_zero (hat.1.trans h)
          · rw [h1]; exact ms_idx hat.1 h0 (idxI_at h h2 h3))
        clear hat hmx
        by_cases hm0 : 0 < M
        · have hv4 : Hid (msB es = true) := Lib.hid (by rw [hv2.out]; simp; exact hm0)
          go_wp2
          go_ret3
          exact ⟨ret_iib hv3.out.symm hv1.out.symm hv4.out.symm, hB2⟩
        · have hv4 : Hid (msB es = false) := Lib.hid (by rw [hv2.out]; simp; omega)
          go_wp2
          go_ret3
          exact ⟨ret_iib hv3.out.symm hv1.out.symm hv4.out.symm, hB2⟩
set_option maxHeartbeats 2000000 in
theorem iMostSuspect_any (es : List (List Ent)) (A : Option Addr) (c : Nat) {l h : Nat} (w : World) (hr0 : RdEE w l h A es) (hl : esszL es ≤ 1048576) :
    Calls Try.prog 35 #[.slice A es.length c] w fun e w' => e = .returned (.tuple #[.int .i64 (msI es), .int .i64 (msM es), .bool (msB es)]) ∧ Below w.heap.size w w' := by
  have hr := hr0.std
  clear hr0
  cases q : logsB es with
  | false =>
    have hv := Lib.hid (ms_bad q)
    go_enter Try.func35, Try.ntmps35
    go_wp2_with (go_at_call 63; (with_reducible refine (iAreLogs_w es A c _ hr hl _ q).mono ?_); rintro e w1 ⟨rfl, hb1⟩)
    go_ret3
    exact ⟨ret_iib hv.out.2.1.symm hv.out.1.symm hv.out.2.2.symm, hb1⟩
  | true =>
    have hel := essz_len es
    have h18 := (logsB_iff.1 q).1
    have hle : (fcM es).length ≤ 1048576 := by rw [fcM_len]; omega
    have hle0 : 0 < (fcM es).length := by rw [fcM_len]; omega
    have hnn := Lib.hid (fcM_nn es)
    have hge := (foldl_max_ge (fcM es) 0).1
    obtain ⟨M, hmx⟩ : ∃ M, mxL (fcM es) = M := ⟨_, rfl⟩
    have hM0 : 0 ≤ M := by rw [← hmx]; exact hge
    have hat := ms_at q hmx
    have hv1 := Lib.hid hat.1
    have hv2 := Lib.hid hat.2
    clear hge
    by_cases hm0 : 0 < M
    · obtain ⟨v, hix⟩ : ∃ v, idxI (fcM es) M = v := ⟨_, rfl⟩
      have hv3 := Lib.hid (ms_idx hat.1 hm0 hix)
      have hv4 : Hid (msB es = true) := Lib.hid (by rw [hv2.out]; simp; exact hm0)
      have t0 : (M == 0) = false := by simp; omega
      have hixH := Lib.hid hix
      clear hat hix
      go_enter Try.func35, Try.ntmps35
      go_wp2_with fail
      (with_reducible refine (iAreLogs_w es A c _ hr hl _ q).mono ?_)
      rintro e w1 ⟨rfl, hb1⟩
      have sz := hb1.size
      go_wp2_with fail
      (with_reducible refine (faultCounts_any es A c _ (hr.st hb1) hl q).mono ?_)
      rintro e w2 ⟨A3, c3, rfl, ho3, hb2⟩
      have hrd := ho3.rd'.std
      have hB2 := hb1.trans (hb2.mono sz)
      clear hb2 ho3
      go_wp2_with (first | (go_at_call 67; (with_reducible refine (Max_any (fcM es) A3 c3 _ hrd hle hle0 hnn.out _ hmx).mono ?_); rintro e w' ⟨rfl, rfl⟩) | (go_at_call 68; (with_reducible refine (Index_any (fcM es) A3 c3 M _ hrd (by omega)).mono ?_); rintro e w' ⟨rfl, rfl⟩))
      go_ret3
      exact ⟨ret_iib (by rw [hv3.out, hixH.out]) hv1.out.symm hv4.out.symm, hB2⟩
    · obtain rfl : M = 0 := by omega
      have hv3 := Lib.hid (ms_zero hat.1)
      have hv4 : Hid (msB es = false) := Lib.hid (by rw [hv2.out]; simp)
      clear hat
      go_enter Try.func35, Try.ntmps35
      go_wp2_with fail
      (with_reducible refine (iAreLogs_w es A c _ hr hl _ q).mono ?_)
      rintro e w1 ⟨rfl, hb1⟩
      have sz := hb1.size
      go_wp2_with fail
      (with_reducible refine (faultCounts_any es A c _ (hr.st hb1) hl q).mono ?_)
      rintro e w2 ⟨A3, c3, rfl, ho3, hb2⟩
      have hrd := ho3.rd'.std
      have hB2 := hb1.trans (hb2.mono sz)
      clear hb2 ho3
      go_wp2_with (go_at_call 67; (with_reducible refine (Max_any (fcM es) A3 c3 _ hrd hle hle0 hnn.out _ hmx).mono ?_); rintro e w' ⟨rfl, rfl⟩)
      go_ret3
      exact ⟨ret_iib hv3.out.symm hv1.out.symm hv4.out.symm, hB2⟩
end Go.Proofs.Ytgglofcjifmbjaa
