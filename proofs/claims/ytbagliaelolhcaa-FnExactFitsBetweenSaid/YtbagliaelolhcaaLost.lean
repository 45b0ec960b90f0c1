/-
  Contracts of LostCount, in the reference and in the program. The conditions are bounds on lengths.
-/
import Derived.Test.YtbagliaelolhcaaGaps
import Derived.Test.YtbagliaelolhcaaFindE
namespace Go.Proofs.Ytbagliaelolhcaa
open Go.RowKit Go.ChangeShapes Go.WideShapes
set_option linter.unusedVariables false
set_option linter.unusedSimpArgs false

theorem find_neg {r : List Ent} {e : Ent} (h : tgP r e = false) : findI r e.msg e.part = -1 := by
  have h1 := findI_range r e.msg e.part
  simp only [tgP, decide_eq_false_iff_not] at h
  omega
set_option maxHeartbeats 4000000 in
theorem sLostCount_any (a : List Ent) (A : Option Addr) (c : Nat) (b : List Ent) (B : Option Addr) (d : Nat) (r : List Ent) (R : Option Addr) (f : Nat) {l h l' h' l2 h2 : Nat} (w : World) (hr0 : RdE w l h A a) (hrb0 : RdE w l' h' B b) (hrr0 : RdE w l2 h2 R r) (hl : eszL a ≤ 1048576) (hlb : eszL b ≤ 1048576) (hlr : eszL r ≤ 1048576) :
    Calls Try.prog 13 #[.slice A a.length c, .slice B b.length d, .slice R r.length f] w fun e w' => e = .returned (.tuple #[.int .i64 (lcV a b r), .bool (lcB a b r)]) ∧ Below w.heap.size w w' := by
  have hr := hr0.std
  have hrb := hrb0.std
  have hrr := hrr0.std
  clear hr0 hrb0 hrr0
  cases q1 : logB a with
  | false =>
    have hq : lcB a b r = false := by simp [lcB, q1]
    rw [lcV_no hq, hq]
    clear hq
    go_enter Try.func13, Try.ntmps13
    go_wp2_with (go_at_call 86; (with_reducible refine (lgGood_v a A c _ hr hl _ q1).mono ?_); rintro e w1 ⟨rfl, hb1⟩)
    go_ret2
    exact ⟨rfl, hb1⟩
  | true =>
    cases q2 : logB b with
    | false =>
      have hq : lcB a b r = false := by simp [lcB, q1, q2]
      rw [lcV_no hq, hq]
      clear hq
      go_enter Try.func13, Try.ntmps13
      go_wp2_with fail
      (with_reducible refine (lgGood_v a A c _ hr hl _ q1).mono ?_)
      rintro e w1 ⟨rfl, hb1⟩
      go_wp2_with (go_at_call 86; (with_reducible refine (lgGood_v b B d _ (hrb.st hb1) hlb _ q2).mono ?_); rintro e w2 ⟨rfl, hb2⟩)
      have hbb := hb1.trans (hb2.mono hb1.size)
      go_ret2
      exact ⟨rfl, hbb⟩
    | true =>
      cases q3 : logB r with
      | false =>
        have hq : lcB a b r = false := by simp [lcB, q1, q2, q3]
        rw [lcV_no hq, hq]
        clear hq
        go_enter Try.func13, Try.ntmps13
        go_wp2_with fail
        (with_reducible refine (lgGood_v a A c _ hr hl _ q1).mono ?_)
        rintro e w1 ⟨rfl, hb1⟩
        go_wp2_with fail
        (with_reducible refine (lgGood_v b B d _ (hrb.st hb1) hlb _ q2).mono ?_)
        rintro e w2 ⟨rfl, hb2⟩
        have hbb := hb1.trans (hb2.mono hb1.size)
        go_wp2_with (go_at_call 86; (with_reducible refine (lgGood_v r R f _ (hrr.st hbb) hlr _ q3).mono ?_); rintro e w3 ⟨rfl, hb3⟩)
        have hbc := hbb.trans (hb3.mono hbb.size)
        go_ret2
        exact ⟨rfl, hbc⟩
      | true =>
        have hq : lcB a b r = true := by simp [lcB, q1, q2, q3]
        rw [lcV_yes hq, hq]
        clear hq
        have q1H := Lib.hid q1
        have q2H := Lib.hid q2
        have hrl := log_len q3
        go_enter Try.func13, Try.ntmps13
        go_wp2_with fail
        (with_reducible refine (lgGood_v a A c _ hr hl _ q1).mono ?_)
        rintro e w1 ⟨rfl, hb1⟩
        go_wp2_with fail
        (with_reducible refine (lgGood_v b B d _ (hrb.st hb1) hlb _ q2).mono ?_)
        rintro e w2 ⟨rfl, hb2⟩
        have hbb := hb1.trans (hb2.mono hb1.size)
        go_wp2_with fail
        (with_reducible refine (lgGood_v r R f _ (hrr.st hbb) hlr _ q3).mono ?_)
        rintro e w3 ⟨rfl, hb3⟩
        have hbc := hbb.trans (hb3.mono hbb.size)
        clear q1 q2 q3 hb1 hb2 hb3 hbb
        go_wp2_with fail
        (with_reducible refine (rbGaps_any a A c b B d 0 0 _ (hr.st hbc) (hrb.st hbc) q1H.out q2H.out (by omega) (by omega)).mono ?_)
        rintro e w4 ⟨v1, v2, rows, rfl, ho1, -, -, hb4⟩
        have hsc := hbc.size
        have hbd := hbc.trans (hb4.mono hsc)
        have hrr4 := hrr.st hbd
        have hs4 := hbd.size
        obtain ⟨P, hP⟩ : ∃ P, P = tgTo a b a.length := ⟨_, rfl⟩
        rw [← hP] at ho1
        have hPl : P.length ≤ 30 := by
          have h1 := tgTo_len a b a.length
          have h2 := log_len q1H.out
          rw [hP]; omega
        have hcells := ho1.cells
        obtain ⟨Ag, cg, rfl, hgc, _, _, hgx⟩ := hcells
        have hPH := Lib.hid hP
        have hgxH := Lib.hid hgx
        have hml : Hid ((P.map (gapRow a b 0 0)).length = P.length) := Lib.hid (List.length_map _)
        clear hP hgx ho1 hb4 hbc
        go_wp2
        go_loopw [10, 12, 34] (fun n _ i wr => ∃ k : Nat, k ≤ P.length ∧ i = .int .i64 k ∧ n = .int .i64 ((lsTo a r P k : Nat) : Int) ∧ Below w4.heap.size w4 wr) (fun _ _ i _ => P.length - (intOf i).toNat)
        case atStart => exact ⟨0, Nat.zero_le _, rfl, rfl, Below.refl _ _⟩
        case round =>
          obtain ⟨k, hk, rfl, rfl, hbr⟩ := hrel
          have hszr := hbr.size
          have hle := lsTo_le a r P k
          by_cases hlt : k < P.length
          · obtain ⟨g, rfl, _, _, hgl, _, hcc⟩ := hgxH.out (by rw [hml.out]; omega)
            have hrow : ∀ i, i < 4 → wr.cell? ⟨g, k * 4 + i, none⟩ = (gapRow a b 0 0 P[k])[i]? := fun i hi => (hbr.cell (p := ⟨g, k * 4 + i, none⟩) hgl).trans ((hcc k (by rw [hml.out]; exact hlt) i hi).trans (by rw [List.getElem_map]))
            have x0 : wr.cell? ⟨g, k * 4, none⟩ = some (.int .i64 (eAt a P[k].1).msg) := hrow 0 (by omega)
            have x1 : wr.cell? ⟨g, k * 4 + 1, none⟩ = some (.int .i64 (eAt a P[k].1).part) := hrow 1 (by omega)
            have x2 : wr.cell? ⟨g, k * 4 + 2, none⟩ = some (.int .i64 ((eAt a P[k].1).time + 0)) := hrow 2 (by omega)
            have x3 : wr.cell? ⟨g, k * 4 + 3, none⟩ = some (.int .i64 ((eAt b P[k].2).time - 0)) := hrow 3 (by omega)
            have hgl2 : g < wr.heap.size := by omega
            clear hrow hcc
            obtain ⟨X, hX⟩ : ∃ X, X = eAt a P[k].1 := ⟨_, rfl⟩
            obtain ⟨T2, hT2⟩ : ∃ T2, T2 = (eAt a P[k].1).time + 0 := ⟨_, rfl⟩
            obtain ⟨T3, hT3⟩ : ∃ T3, T3 = (eAt b P[k].2).time - 0 := ⟨_, rfl⟩
            rw [← hT2] at x2
            rw [← hT3] at x3
            rw [← hX] at x0 x1
            clear hT2 hT3
            have hrr5 := hrr4.st hbr
            cases ht : tgP r X with
            | false =>
              have hst := Lib.hid (lsTo_yes (a := a) hlt (by rw [← hX]; exact ht))
              have hneg := find_neg ht
              clear ht hX
              go_wp2_with fail
              (with_reducible refine (lgFind_v r R f X.msg X.part _ (hrr5.alloc _) (by omega) _ hneg).mono ?_)
              rintro e w5 ⟨rfl, hb5⟩
              have hB5 := Lib.hid ((hbr.alloc hszr _).trans (hb5.mono (by simp; omega)) : Below w4.heap.size w4 w5)
              clear hb5 hbr
              go_wp2
              go_roundw
              case rel => exact ⟨k + 1, by omega, by go_num, by rw [hst.out]; go_num, hB5.out⟩
              case measure => simp [intOf]; omega
            | true =>
              have hst := Lib.hid (lsTo_no (a := a) hlt (by rw [← hX]; exact ht))
              obtain ⟨_, hfe⟩ := tgP_lt ht
              obtain ⟨J, hJ⟩ : ∃ J, tgJ r X = J := ⟨_, rfl⟩
              rw [hJ] at hfe
              clear ht hX hJ
              go_wp2_with fail
              (with_reducible refine (lgFind_v r R f X.msg X.part _ (hrr5.alloc _) (by omega) _ hfe).mono ?_)
              rintro e w5 ⟨rfl, hb5⟩
              have hB5 := Lib.hid ((hbr.alloc hszr _).trans (hb5.mono (by simp; omega)) : Below w4.heap.size w4 w5)
              clear hb5 hbr
              go_wp2
              go_roundw
              case rel => exact ⟨k + 1, by omega, by go_num, by rw [hst.out], hB5.out⟩
              case measure => simp [intOf]; omega
          · obtain rfl : k = P.length := by omega
            have hB := Lib.hid (hbd.trans (hbr.mono hs4))
            clear hbr
            go_wp2
            go_ret2
            exact ⟨by rw [← hPH.out]; rfl, hB.out⟩
set_option maxHeartbeats 4000000 in
theorem iLostCount_any (a : List Ent) (A : Option Addr) (c : Nat) (b : List Ent) (B : Option Addr) (d : Nat) (r : List Ent) (R : Option Addr) (f : Nat) {l h l' h' l2 h2 : Nat} (w : World) (hr0 : RdE w l h A a) (hrb0 : RdE w l' h' B b) (hrr0 : RdE w l2 h2 R r) (hl : eszL a ≤ 1048576) (hlb : eszL b ≤ 1048576) (hlr : eszL r ≤ 1048576) (hca : a.length ≤ c) (hcb : b.length ≤ d) (hcr : r.length ≤ f) :
    Calls Try.prog 15 #[.slice A a.length c, .slice B b.length d, .slice R r.length f] w fun e w' => e = .returned (.tuple #[.int .i64 (lcV a b r), .bool (lcB a b r)]) ∧ Below w.heap.size w w' := by
  have hr := hr0.std
  have hrb := hrb0.std
  have hrr := hrr0.std
  clear hr0 hrb0 hrr0
  cases q1 : logB a with
  | false =>
    have hq : lcB a b r = false := by simp [lcB, q1]
    rw [lcV_no hq, hq]
    clear hq
    go_enter Try.func15, Try.ntmps15
    go_wp2_with (go_at_call 89; (with_reducible refine (iIsLog_v a A c _ hr hl hca _ q1).mono ?_); rintro e w1 ⟨rfl, hb1⟩)
    go_ret2
    exact ⟨rfl, hb1⟩
  | true =>
    cases q2 : logB b with
    | false =>
      have hq : lcB a b r = false := by simp [lcB, q1, q2]
      rw [lcV_no hq, hq]
      clear hq
      go_enter Try.func15, Try.ntmps15
      go_wp2_with fail
      (with_reducible refine (iIsLog_v a A c _ hr hl hca _ q1).mono ?_)
      rintro e w1 ⟨rfl, hb1⟩
      go_wp2_with (go_at_call 89; (with_reducible refine (iIsLog_v b B d _ (hrb.st hb1) hlb hcb _ q2).mono ?_); rintro e w2 ⟨rfl, hb2⟩)
      have hbb := hb1.trans (hb2.mono hb1.size)
      go_ret2
      exact ⟨rfl, hbb⟩
    | true =>
      cases q3 : logB r with
      | false =>
        have hq : lcB a b r = false := by simp [lcB, q1, q2, q3]
        rw [lcV_no hq, hq]
        clear hq
        go_enter Try.func15, Try.ntmps15
        go_wp2_with fail
        (with_reducible refine (iIsLog_v a A c _ hr hl hca _ q1).mono ?_)
        rintro e w1 ⟨rfl, hb1⟩
        go_wp2_with fail
        (with_reducible refine (iIsLog_v b B d _ (hrb.st hb1) hlb hcb _ q2).mono ?_)
        rintro e w2 ⟨rfl, hb2⟩
        have hbb := hb1.trans (hb2.mono hb1.size)
        go_wp2_with (go_at_call 89; (with_reducible refine (iIsLog_v r R f _ (hrr.st hbb) hlr hcr _ q3).mono ?_); rintro e w3 ⟨rfl, hb3⟩)
        have hbc := hbb.trans (hb3.mono hbb.size)
        go_ret2
        exact ⟨rfl, hbc⟩
      | true =>
        have hq : lcB a b r = true := by simp [lcB, q1, q2, q3]
        rw [lcV_yes hq, hq]
        clear hq
        have q1H := Lib.hid q1
        have q2H := Lib.hid q2
        have hrl := log_len q3
        go_enter Try.func15, Try.ntmps15
        go_wp2_with fail
        (with_reducible refine (iIsLog_v a A c _ hr hl hca _ q1).mono ?_)
        rintro e w1 ⟨rfl, hb1⟩
        go_wp2_with fail
        (with_reducible refine (iIsLog_v b B d _ (hrb.st hb1) hlb hcb _ q2).mono ?_)
        rintro e w2 ⟨rfl, hb2⟩
        have hbb := hb1.trans (hb2.mono hb1.size)
        go_wp2_with fail
        (with_reducible refine (iIsLog_v r R f _ (hrr.st hbb) hlr hcr _ q3).mono ?_)
        rintro e w3 ⟨rfl, hb3⟩
        have hbc := hbb.trans (hb3.mono hbb.size)
        clear q1 q2 q3 hb1 hb2 hb3 hbb
        go_wp2_with fail
        have hla := log_len q1H.out
        have hlbb := log_len q2H.out
        (with_reducible refine (together_any a A c b B d _ (hr.st hbc) (hrb.st hbc) (by omega) (by omega)).mono ?_)
        rintro e w4 ⟨v1, rows, rfl, ho1, hpr, hb4⟩
        have hsc := hbc.size
        have hbd := hbc.trans (hb4.mono hsc)
        have hrr4 := hrr.st hbd
        have hs4 := hbd.size
        obtain ⟨P, hP⟩ : ∃ P, P = tgTo a b a.length := ⟨_, rfl⟩
        rw [← hP] at hpr
        have hPl : P.length ≤ 30 := by
          have h1 := tgTo_len a b a.length
          have h2 := log_len q1H.out
          rw [hP]; omega
        have hcells := ho1.cells
        obtain ⟨Ag, cg, rfl, hgc, _, _, hgx⟩ := hcells
        have hPH := Lib.hid hP
        have hgxH := Lib.hid hgx
        have hml := Lib.hid hpr.1
        have hprH := Lib.hid hpr
        clear hP hgx ho1 hb4 hbc hpr
        go_wp2
        go_loopw [8, 10, 28] (fun n _ i wr => ∃ k : Nat, k ≤ P.length ∧ i = .int .i64 k ∧ n = .int .i64 ((lsTo a r P k : Nat) : Int) ∧ Below w4.heap.size w4 wr) (fun _ _ i _ => P.length - (intOf i).toNat)
        case atStart => exact ⟨0, Nat.zero_le _, rfl, rfl, Below.refl _ _⟩
        case round =>
          obtain ⟨k, hk, rfl, rfl, hbr⟩ := hrel
          have hszr := hbr.size
          have hle := lsTo_le a r P k
          have hrle : rows.length ≤ P.length := Nat.le_of_eq hml.out
          by_cases hlt : k < P.length
          · have hlt2 : k < rows.length := by rw [hml.out]; exact hlt
            obtain ⟨g, rfl, _, _, hgl, _, hcc⟩ := hgxH.out (by rw [hml.out]; omega)
            obtain ⟨rr1, rr2, hrr, ⟨A1, c1, A2, c2, e1, _, _⟩, ⟨A3, c3, A4, c4, e2, _, _⟩⟩ := hprH.out.2 k hlt (by rw [hml.out]; exact hlt)
            rw [e1, e2] at hrr
            have hrow : ∀ i, i < 10 → wr.cell? ⟨g, k * 10 + i, none⟩ = ((rows[k]'(by rw [hml.out]; exact hlt))[i]?) := fun i hi => (hbr.cell (p := ⟨g, k * 10 + i, none⟩) hgl).trans (hcc k (by rw [hml.out]; exact hlt) i hi)
            rw [hrr] at hrow
            have x0 : wr.cell? ⟨g, k * 10, none⟩ = some (.int .i64 (eAt a P[k].1).time) := hrow 0 (by omega)
            have x1 : wr.cell? ⟨g, k * 10 + 1, none⟩ = some (.int .i64 (eAt a P[k].1).msg) := hrow 1 (by omega)
            have x2 : wr.cell? ⟨g, k * 10 + 2, none⟩ = some (.int .i64 (eAt a P[k].1).part) := hrow 2 (by omega)
            have x3 : wr.cell? ⟨g, k * 10 + 3, none⟩ = some (.slice A1 (eAt a P[k].1).seen.length c1) := hrow 3 (by omega)
            have x4 : wr.cell? ⟨g, k * 10 + 4, none⟩ = some (.slice A2 (eAt a P[k].1).shown.length c2) := hrow 4 (by omega)
            have x5 : wr.cell? ⟨g, k * 10 + 5, none⟩ = some (.int .i64 (eAt b P[k].2).time) := hrow 5 (by omega)
            have x6 : wr.cell? ⟨g, k * 10 + 6, none⟩ = some (.int .i64 (eAt b P[k].2).msg) := hrow 6 (by omega)
            have x7 : wr.cell? ⟨g, k * 10 + 7, none⟩ = some (.int .i64 (eAt b P[k].2).part) := hrow 7 (by omega)
            have x8 : wr.cell? ⟨g, k * 10 + 8, none⟩ = some (.slice A3 (eAt b P[k].2).seen.length c3) := hrow 8 (by omega)
            have x9 : wr.cell? ⟨g, k * 10 + 9, none⟩ = some (.slice A4 (eAt b P[k].2).shown.length c4) := hrow 9 (by omega)
            have hgl2 : g < wr.heap.size := by omega
            clear hrow hcc hrr e1 e2
            obtain ⟨X, hX⟩ : ∃ X, X = eAt a P[k].1 := ⟨_, rfl⟩
            obtain ⟨Y, hY⟩ : ∃ Y, Y = eAt b P[k].2 := ⟨_, rfl⟩
            rw [← hX] at x0 x1 x2 x3 x4
            rw [← hY] at x5 x6 x7 x8 x9
            clear hY
            have hrr5 := hrr4.st hbr
            cases ht : tgP r X with
            | false =>
              have hst := Lib.hid (lsTo_yes (a := a) hlt (by rw [← hX]; exact ht))
              have hneg := find_neg ht
              clear ht hX
              go_wp2_with fail
              (with_reducible refine (entryIndex_n r R r.length f X.msg X.part _ (hrr5.alloc _) rfl (by omega) _ hneg).mono ?_)
              rintro e w5 ⟨rfl, hb5⟩
              have hB5 := Lib.hid ((hbr.alloc hszr _).trans (hb5.mono (by simp; omega)) : Below w4.heap.size w4 w5)
              clear hb5 hbr
              go_wp2
              go_roundw
              case rel => exact ⟨k + 1, by omega, by go_num, by rw [hst.out]; go_num, hB5.out⟩
              case measure => simp [intOf]; omega
            | true =>
              have hst := Lib.hid (lsTo_no (a := a) hlt (by rw [← hX]; exact ht))
              obtain ⟨_, hfe⟩ := tgP_lt ht
              obtain ⟨J, hJ⟩ : ∃ J, tgJ r X = J := ⟨_, rfl⟩
              rw [hJ] at hfe
              clear ht hX hJ
              go_wp2_with fail
              (with_reducible refine (entryIndex_n r R r.length f X.msg X.part _ (hrr5.alloc _) rfl (by omega) _ hfe).mono ?_)
              rintro e w5 ⟨rfl, hb5⟩
              have hB5 := Lib.hid ((hbr.alloc hszr _).trans (hb5.mono (by simp; omega)) : Below w4.heap.size w4 w5)
              clear hb5 hbr
              go_wp2
              go_roundw
              case rel => exact ⟨k + 1, by omega, by go_num, by rw [hst.out], hB5.out⟩
              case measure => simp [intOf]; omega
          · obtain rfl : k = P.length := by omega
            have hB := Lib.hid (hbd.trans (hbr.mono hs4))
            clear hbr
            go_wp2
            go_ret2
            exact ⟨by rw [← hPH.out]; rfl, hB.out⟩
end Go.Proofs.Ytbagliaelolhcaa
