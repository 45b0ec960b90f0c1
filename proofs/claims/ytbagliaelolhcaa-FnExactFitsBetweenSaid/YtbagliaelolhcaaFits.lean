/-
  Contracts of FitsBetween, in the reference and in the program. The conditions are bounds on lengths.
-/
import Derived.Test.YtbagliaelolhcaaLost
import Derived.Test.YtbagliaelolhcaaSame
import Derived.Test.YtbagliaelolhcaaInU
import Derived.Deep.QuietTactic
import Derived.BigQuiet
namespace Go.Proofs.Ytbagliaelolhcaa
open Go.RowKit Go.ChangeShapes Go.WideShapes
set_option linter.unusedVariables false
set_option linter.unusedSimpArgs false

theorem beq_dec (a b : Nat) : ((a : Int) == (b : Int)) = decide (a = b) := by
  by_cases h : a = b
  · simp [h]
  · simp [h]; omega
theorem ret_bb {p q r : Bool} (h : p = q) : Ending.returned (.tuple #[.bool p, .bool r]) = .returned (.tuple #[.bool q, .bool r]) := by rw [h]
theorem l1Same_q (xs ys : List Int) (A A' : Option Addr) (c c' : Nat) {l h l' h' : Nat} (w : World) (k : Nat) (hx : Rd w l h A xs) (hy : Rd w l' h' A' ys) (hl : xs.length ≤ 9223372036854775807) (hl' : ys.length ≤ 9223372036854775807) (v : Bool) (hv : eqL xs ys = v) :
    Calls Try.prog 94 #[.slice A xs.length c, .slice A' ys.length c'] (w.drewN k) fun e w' => e = .returned (.bool v) ∧ ∃ m, w' = w.drewN m :=
  (l1Same_any xs ys A A' c c' (w.drewN k) (hx.drewN k) (hy.drewN k) hl hl').mono fun e w' ⟨he, n, hw⟩ => ⟨hv ▸ he, k + n, by rw [← hw, World.drewN_drewN]⟩
theorem slEqual_q (xs ys : List Int) (A A' : Option Addr) (c c' : Nat) {l h l' h' : Nat} (w : World) (k : Nat) (hx : Rd w l h A xs) (hy : Rd w l' h' A' ys) (hl : xs.length ≤ 9223372036854775807) (hl' : ys.length ≤ 9223372036854775807) (v : Bool) (hv : eqL xs ys = v) :
    Calls Try.prog 97 #[.slice A xs.length c, .slice A' ys.length c'] (w.drewN k) fun e w' => e = .returned (.bool v) ∧ ∃ m, w' = w.drewN m :=
  (slEqual_any xs ys A A' c c' (w.drewN k) (hx.drewN k) (hy.drewN k) hl hl').mono fun e w' ⟨he, n, hw⟩ => ⟨hv ▸ he, k + n, by rw [← hw, World.drewN_drewN]⟩

theorem rbGood_v (a : List Ent) (A : Option Addr) (c : Nat) (b : List Ent) (B : Option Addr) (d : Nat) (p q : Int) {l h l' h' : Nat} (w : World) (hr0 : RdE w l h A a) (hrb0 : RdE w l' h' B b) (hl : eszL a ≤ 1048576) (hlb : eszL b ≤ 1048576) (v : Bool) (hv : ((logB a && logB b) && (inB p 0 60 && inB q 0 60)) = v) :
    Calls Try.prog 92 #[.slice A a.length c, .slice B b.length d, .int .i64 p, .int .i64 q] w fun e w' => e = .returned (.bool v) ∧ Below w.heap.size w w' := by
  subst hv
  cases q1 : logB a with
  | false =>
    go_enter Try.func92, Try.ntmps92
    go_wp2_with (go_at_call 86; (with_reducible refine (lgGood_v a A c _ hr0 hl _ q1).mono ?_); rintro e w1 ⟨rfl, hb1⟩)
    go_ret
    exact ⟨rfl, hb1⟩
  | true =>
    cases q2 : logB b with
    | false =>
      go_enter Try.func92, Try.ntmps92
      go_wp2_with fail
      (with_reducible refine (lgGood_v a A c _ hr0 hl _ q1).mono ?_)
      rintro e w1 ⟨rfl, hb1⟩
      go_wp2_with (go_at_call 86; (with_reducible refine (lgGood_v b B d _ (hrb0.st hb1) hlb _ q2).mono ?_); rintro e w2 ⟨rfl, hb2⟩)
      have hbb := hb1.trans (hb2.mono hb1.size)
      go_ret
      exact ⟨rfl, hbb⟩
    | true =>
      cases q3 : inB p 0 60 with
      | false =>
        go_enter Try.func92, Try.ntmps92
        go_wp2_with fail
        (with_reducible refine (lgGood_v a A c _ hr0 hl _ q1).mono ?_)
        rintro e w1 ⟨rfl, hb1⟩
        go_wp2_with fail
        (with_reducible refine (lgGood_v b B d _ (hrb0.st hb1) hlb _ q2).mono ?_)
        rintro e w2 ⟨rfl, hb2⟩
        have hbb := hb1.trans (hb2.mono hb1.size)
        go_wp2_with (go_at_call 93; (with_reducible refine (l1In_u p 0 60 _ _ q3).mono ?_); rintro e w3 ⟨rfl, rfl⟩)
        go_ret
        exact ⟨rfl, hbb⟩
      | true =>
        cases q4 : inB q 0 60
        all_goals
          go_enter Try.func92, Try.ntmps92
          go_wp2_with fail
          (with_reducible refine (lgGood_v a A c _ hr0 hl _ q1).mono ?_)
          rintro e w1 ⟨rfl, hb1⟩
          go_wp2_with fail
          (with_reducible refine (lgGood_v b B d _ (hrb0.st hb1) hlb _ q2).mono ?_)
          rintro e w2 ⟨rfl, hb2⟩
          have hbb := hb1.trans (hb2.mono hb1.size)
          go_wp2_with fail
          (with_reducible refine (l1In_u p 0 60 _ _ q3).mono ?_)
          rintro e w3 ⟨rfl, rfl⟩
          go_wp2_with fail
          (with_reducible refine (l1In_u q 0 60 _ _ q4).mono ?_)
          rintro e w4 ⟨rfl, rfl⟩
          go_wp2_with fail
          go_ret
          exact ⟨rfl, hbb⟩

theorem gapAsked_v (a : List Ent) (A : Option Addr) (c : Nat) (b : List Ent) (B : Option Addr) (d : Nat) (p q : Int) {l h l' h' : Nat} (w : World) (hr0 : RdE w l h A a) (hrb0 : RdE w l' h' B b) (hl : eszL a ≤ 1048576) (hlb : eszL b ≤ 1048576) (hca : a.length ≤ c) (hcb : b.length ≤ d) (v : Bool) (hv : ((logB a && logB b) && (inB p 0 60 && inB q 0 60)) = v) :
    Calls Try.prog 95 #[.slice A a.length c, .slice B b.length d, .int .i64 p, .int .i64 q] w fun e w' => e = .returned (.bool v) ∧ Below w.heap.size w w' := by
  subst hv
  cases q1 : logB a with
  | false =>
    go_enter Try.func95, Try.ntmps95
    go_wp2_with (go_at_call 89; (with_reducible refine (iIsLog_v a A c _ hr0 hl hca _ q1).mono ?_); rintro e w1 ⟨rfl, hb1⟩)
    go_ret
    exact ⟨rfl, hb1⟩
  | true =>
    cases q2 : logB b with
    | false =>
      go_enter Try.func95, Try.ntmps95
      go_wp2_with fail
      (with_reducible refine (iIsLog_v a A c _ hr0 hl hca _ q1).mono ?_)
      rintro e w1 ⟨rfl, hb1⟩
      go_wp2_with (go_at_call 89; (with_reducible refine (iIsLog_v b B d _ (hrb0.st hb1) hlb hcb _ q2).mono ?_); rintro e w2 ⟨rfl, hb2⟩)
      have hbb := hb1.trans (hb2.mono hb1.size)
      go_ret
      exact ⟨rfl, hbb⟩
    | true =>
      cases q3 : inB p 0 60 with
      | false =>
        go_enter Try.func95, Try.ntmps95
        go_wp2_with fail
        (with_reducible refine (iIsLog_v a A c _ hr0 hl hca _ q1).mono ?_)
        rintro e w1 ⟨rfl, hb1⟩
        go_wp2_with fail
        (with_reducible refine (iIsLog_v b B d _ (hrb0.st hb1) hlb hcb _ q2).mono ?_)
        rintro e w2 ⟨rfl, hb2⟩
        have hbb := hb1.trans (hb2.mono hb1.size)
        go_wp2_with (go_at_call 96; (with_reducible refine (within_u p 0 60 _ _ q3).mono ?_); rintro e w3 ⟨rfl, rfl⟩)
        go_ret
        exact ⟨rfl, hbb⟩
      | true =>
        cases q4 : inB q 0 60
        all_goals
          go_enter Try.func95, Try.ntmps95
          go_wp2_with fail
          (with_reducible refine (iIsLog_v a A c _ hr0 hl hca _ q1).mono ?_)
          rintro e w1 ⟨rfl, hb1⟩
          go_wp2_with fail
          (with_reducible refine (iIsLog_v b B d _ (hrb0.st hb1) hlb hcb _ q2).mono ?_)
          rintro e w2 ⟨rfl, hb2⟩
          have hbb := hb1.trans (hb2.mono hb1.size)
          go_wp2_with fail
          (with_reducible refine (within_u p 0 60 _ _ q3).mono ?_)
          rintro e w3 ⟨rfl, rfl⟩
          go_wp2_with fail
          (with_reducible refine (within_u q 0 60 _ _ q4).mono ?_)
          rintro e w4 ⟨rfl, rfl⟩
          go_wp2_with fail
          go_ret
          exact ⟨rfl, hbb⟩

set_option maxRecDepth 100000 in
set_option maxHeartbeats 8000000 in
theorem sFitsBetween_any (r : List Ent) (R : Option Addr) (f : Nat) (a : List Ent) (A : Option Addr) (c : Nat) (b : List Ent) (B : Option Addr) (d : Nat) (p q : Int) {l h l' h' l2 h2 : Nat} (w : World) (hrr0 : RdE w l2 h2 R r) (hr0 : RdE w l h A a) (hrb0 : RdE w l' h' B b) (hlr : eszL r ≤ 1048576) (hl : eszL a ≤ 1048576) (hlb : eszL b ≤ 1048576) :
    Calls Try.prog 17 #[.slice R r.length f, .slice A a.length c, .slice B b.length d, .int .i64 p, .int .i64 q] w fun e w' => e = .returned (.tuple #[.bool (fbV r a b p q), .bool (fbB r a b p q)]) ∧ Below w.heap.size w w' := by
  have hr := hr0.std
  have hrb := hrb0.std
  have hrr := hrr0.std
  clear hr0 hrb0 hrr0
  cases q1 : logB r with
  | false =>
    have hq : fbB r a b p q = false := by simp [fbB, q1]
    rw [fbV_no hq, hq]
    clear hq
    go_enter Try.func17, Try.ntmps17
    go_wp2_with (go_at_call 86; (with_reducible refine (lgGood_v r R f _ hrr hlr _ q1).mono ?_); rintro e w1 ⟨rfl, hb1⟩)
    go_ret2
    exact ⟨rfl, hb1⟩
  | true =>
    cases q2 : ((logB a && logB b) && (inB p 0 60 && inB q 0 60)) with
    | false =>
      have hq : fbB r a b p q = false := by rw [fbB, q2, Bool.and_false]
      rw [fbV_no hq, hq]
      clear hq
      go_enter Try.func17, Try.ntmps17
      go_wp2_with fail
      (with_reducible refine (lgGood_v r R f _ hrr hlr _ q1).mono ?_)
      rintro e w1 ⟨rfl, hb1⟩
      go_wp2_with (go_at_call 92; (with_reducible refine (rbGood_v a A c b B d p q _ (hr.st hb1) (hrb.st hb1) hl hlb _ q2).mono ?_); rintro e w2 ⟨rfl, hb2⟩)
      have hbb := hb1.trans (hb2.mono hb1.size)
      go_ret2
      exact ⟨rfl, hbb⟩
    | true =>
      have hq : fbB r a b p q = true := by rw [fbB, q1, q2]; rfl
      rw [fbV_yes hq, hq]
      have q2' := q2
      simp only [Bool.and_eq_true, inB_iff] at q2'
      obtain ⟨⟨qa, qb⟩, ⟨qp0, qp1⟩, qq0, qq1⟩ := q2'
      have q1H := Lib.hid q1
      have qaH := Lib.hid qa
      have qbH := Lib.hid qb
      have hrl := log_len q1
      have hal := log_len qa
      have hbl := log_len qb
      clear hq qa qb
      go_enter Try.func17, Try.ntmps17
      go_wp2_with fail
      (with_reducible refine (lgGood_v r R f _ hrr hlr _ q1).mono ?_)
      rintro e w1 ⟨rfl, hb1⟩
      go_wp2_with fail
      (with_reducible refine (rbGood_v a A c b B d p q _ (hr.st hb1) (hrb.st hb1) hl hlb _ q2).mono ?_)
      rintro e w2 ⟨rfl, hb2⟩
      have hbb := hb1.trans (hb2.mono hb1.size)
      clear q1 q2 hb1 hb2
      go_wp2_with fail
      (with_reducible refine (rbGaps_any a A c b B d p q _ (hr.st hbb) (hrb.st hbb) qaH.out qbH.out (by omega) (by omega)).mono ?_)
      rintro e w4 ⟨v1, v2, rows, rfl, ho1, ho2, hpr, hb4⟩
      have hsc := hbb.size
      have hbd := hbb.trans (hb4.mono hsc)
      have hrr4 := hrr.st hbd
      have hra4 := hr.st hbd
      have hrb4 := hrb.st hbd
      have hs4 := hbd.size
      obtain ⟨P, hP⟩ : ∃ P, P = tgTo a b a.length := ⟨_, rfl⟩
      rw [← hP] at ho1 hpr
      have hPl : P.length ≤ 30 := by
        have h1 := tgTo_len a b a.length
        rw [hP]; omega
      have hPat : ∀ j (hj : j < P.length), P[j].1 < a.length ∧ P[j].2 < b.length := fun j hj => by
        have hm : P[j] ∈ tgTo a b a.length := by rw [← hP]; exact List.getElem_mem hj
        exact tgTo_at _ hm
      obtain ⟨Ag, cg, rfl, hgc, _, _, hgx⟩ := ho1.cells
      have hPH := Lib.hid hP
      have hgxH := Lib.hid hgx
      have hPatH := Lib.hid hPat
      have hml : Hid ((P.map (gapRow a b p q)).length = P.length) := Lib.hid (List.length_map _)
      obtain ⟨Ag2, cg2, rfl, hgc2, _, _, hgx2⟩ := ho2.cells
      have hgx2H := Lib.hid hgx2
      have hprl := Lib.hid hpr.1
      have hprH := Lib.hid hpr
      clear hP hgx ho1 hb4 hbb hPat hgx2 ho2 hpr
      by_cases hlen : P.length = r.length
      · have hne : ((P.length : Int) != (r.length : Int)) = false := by simp [hlen]
        have hne' : (P.length != r.length) = false := by simp [hlen]
        have hlenH := Lib.hid hlen
        clear hlen
        go_wp2
        go_loopw [14, 15, 16, 43] (fun _ _ _ i wr => ∃ k : Nat, k ≤ P.length ∧ i = .int .i64 k ∧ (∀ j (h : j < P.length), j < k → fitP r a b p q P[j] = true) ∧ Below w4.heap.size w4 wr) (fun _ _ _ i _ => P.length - (intOf i).toNat)
        case atStart => exact ⟨0, Nat.zero_le _, rfl, fun j _ h => absurd h (by omega), Below.refl _ _⟩
        case round =>
          obtain ⟨k, hk, rfl, hall, hbr⟩ := hrel
          have hszr := hbr.size
          have hallH := Lib.hid hall
          clear hall
          skip
          by_cases hlt : k < P.length
          · obtain ⟨hx1, hx2'⟩ := hPatH.out k hlt
            obtain ⟨X, hX⟩ : ∃ X, X = eAt a P[k].1 := ⟨_, rfl⟩
            obtain ⟨Y, hY⟩ : ∃ Y, Y = eAt b P[k].2 := ⟨_, rfl⟩
            have hXa : a[P[k].1] = X := by rw [hX, eAt_get hx1]
            have hYb : b[P[k].2] = Y := by rw [hY, eAt_get hx2']
            have tX := (log_at qaH.out _ hx1).1
            have sX := (log_at qaH.out _ hx1).2.2.2.2.1
            have tY := (log_at qbH.out _ hx2').1
            have sY := (log_at qbH.out _ hx2').2.2.2.1
            rw [hXa] at tX sX
            rw [hYb] at tY sY
            have hx2 : X.shown.length ≤ 9223372036854775807 := by have := sg_len sX; omega
            have hy1 : Y.seen.length ≤ 9223372036854775807 := by have := sg_len sY; omega
            have hfit : fitP r a b p q P[k] = (tgP r X && (inB (eAt r (tgJ r X)).time (X.time + p) (Y.time - q) && (eqL (eAt r (tgJ r X)).seen X.shown && eqL (eAt r (tgJ r X)).shown Y.seen))) := by
              simp only [fitP, ← hX, ← hY]
            have hbadF : fitP r a b p q P[k] = false → Hid (fitsB r a b p q = false) := fun hf => Lib.hid (fits_bad (j := k) (by rw [← hPH.out]; exact hlt) (by simp only [← hPH.out]; exact hf))
            have hfitH := Lib.hid hfit
            have hbadH := Lib.hid hbadF
            have hXaH := Lib.hid hXa
            have hYbH := Lib.hid hYb
            clear hfit hbadF sX sY hXa hYb
            obtain ⟨g, rfl, _, _, hgl, _, hcc⟩ := hgxH.out (by rw [hml.out]; omega)
            have hrow : ∀ i, i < 4 → wr.cell? ⟨g, k * 4 + i, none⟩ = (gapRow a b p q P[k])[i]? := fun i hi => (hbr.cell (p := ⟨g, k * 4 + i, none⟩) hgl).trans ((hcc k (by rw [hml.out]; exact hlt) i hi).trans (by rw [List.getElem_map]))
            have hgr : gapRow a b p q P[k] = [.int .i64 X.msg, .int .i64 X.part, .int .i64 (X.time + p), .int .i64 (Y.time - q)] := by simp only [gapRow, ← hX, ← hY]
            rw [hgr] at hrow
            have x0 : wr.cell? ⟨g, k * 4, none⟩ = some (.int .i64 X.msg) := hrow 0 (by omega)
            have x1 : wr.cell? ⟨g, k * 4 + 1, none⟩ = some (.int .i64 X.part) := hrow 1 (by omega)
            have x2 : wr.cell? ⟨g, k * 4 + 2, none⟩ = some (.int .i64 (X.time + p)) := hrow 2 (by omega)
            have x3 : wr.cell? ⟨g, k * 4 + 3, none⟩ = some (.int .i64 (Y.time - q)) := hrow 3 (by omega)
            have hgl2 : g < wr.heap.size := by omega
            clear hrow hcc hgr hX hY
            have hrr5 := hrr4.st hbr
            cases ht : tgP r X with
            | false =>
              have hbad := hbadH.out (by rw [hfitH.out, ht]; rfl)
              have hneg := find_neg ht
              clear ht
              go_wp2_with fail
              (with_reducible refine (lgFind_v r R f X.msg X.part _ (hrr5.alloc _) (by omega) _ hneg).mono ?_)
              rintro e w5 ⟨rfl, hb5⟩
              have hB5 : Below w4.heap.size w4 w5 := (hbr.alloc hszr _).trans (hb5.mono (by simp; omega))
              clear hb5 hbr
              go_wp2_with fail
              go_quiet (fail)
              go_wp2_with fail
              have hB := Lib.hid (hbd.trans ((below_drewN hB5 nq).mono hs4))
              clear hB5
              go_ret2
              exact ⟨by rw [hbad.out]; rfl, hB.out⟩
            | true =>
              obtain ⟨hJl, hfe⟩ := tgP_lt ht
              obtain ⟨J, hJ⟩ : ∃ J, tgJ r X = J := ⟨_, rfl⟩
              rw [hJ] at hfe hJl
              have hfitJ : fitP r a b p q P[k] = (inB (eAt r J).time (X.time + p) (Y.time - q) && (eqL (eAt r J).seen X.shown && eqL (eAt r J).shown Y.seen)) := by rw [hfitH.out, ht, hJ]; rfl
              have hfitJH := Lib.hid hfitJ
              obtain ⟨Z, hZ⟩ : ∃ Z, eAt r J = Z := ⟨_, rfl⟩
              rw [hZ] at hfitJH
              have hZr : r[J] = Z := by rw [← hZ, eAt_get hJl]
              have tZ := (log_at q1H.out J hJl).1
              have sZ := (log_at q1H.out J hJl).2.2.2
              rw [hZr] at tZ sZ
              have hz1 : Z.seen.length ≤ 9223372036854775807 := by have := sg_len sZ.1; omega
              have hz2 : Z.shown.length ≤ 9223372036854775807 := by have := sg_len sZ.2.1; omega
              have hZH := Lib.hid hZr
              clear ht hJ hfitJ hZ sZ hZr
              go_wp2_with fail
              (with_reducible refine (lgFind_v r R f X.msg X.part _ (hrr5.alloc _) (by omega) _ hfe).mono ?_)
              rintro e w5 ⟨rfl, hb5⟩
              have s5 : wr.heap.size + 1 ≤ w5.heap.size := by have := hb5.size; simpa using this
              have hB5 : Below w4.heap.size w4 w5 := (hbr.alloc hszr _).trans (hb5.mono (by simp; omega))
              have bk := (Bk.new wr 105 #[.int .i64 X.msg, .int .i64 X.part, .int .i64 (X.time + p), .int .i64 (Y.time - q)]).st hb5
              have y0 := bk.cell 0
              have y1 := bk.cell 1
              have y2 := bk.cell 2
              have y3 := bk.cell 3
              simp at y0 y1 y2 y3
              obtain ⟨br, offr, rfl, _, _, hcr⟩ := (hrr4.st hB5) (by omega)
              obtain ⟨A5, c5, A6, c6, z0, z1, z2, z3, z4, rz1, rz2⟩ := hcr J hJl
              rw [hZH.out] at z0 z1 z2 z3 z4 rz1 rz2
              obtain ⟨m, em, -, hm⟩ := hprH.out.2 k hlt (by rw [hprl.out]; exact hlt)
              have hgx2 := hgx2H.out (by rw [hprl.out]; omega)
              obtain ⟨g2, eg2, _, _, hg2l, _, hcc2⟩ := hgx2
              have u0 : w5.cell? ⟨g2, k, none⟩ = some (.slice (some ⟨m, 0, none⟩) 2 2) := (hB5.cell (p := ⟨g2, k, none⟩) hg2l).trans (by
                have h0 := hcc2 k (by rw [hprl.out]; exact hlt) 0 (by omega)
                rw [em] at h0
                simpa using h0)
              have hml4 : m < w4.heap.size := (Array.getElem?_eq_some_iff.1 hm).1
              have u1 : w5.cell? ⟨m, 0, none⟩ = some (.int .i64 (P[k].1 : Int)) := (hB5.cell (p := ⟨m, 0, none⟩) hml4).trans (cell_of_row w4 m 0 _ _ _ hm)
              have u2 : w5.cell? ⟨m, 1, none⟩ = some (.int .i64 (P[k].2 : Int)) := (hB5.cell (p := ⟨m, 1, none⟩) hml4).trans (cell_of_row w4 m 1 _ _ _ hm)
              subst eg2
              obtain ⟨ba, offa, rfl, _, _, hca'⟩ := (hra4.st hB5) (by omega)
              obtain ⟨A7, c7, A8, c8, a0, a1, a2, a3, a4, ra1, rx2⟩ := hca' _ hx1
              obtain ⟨bb, offb, rfl, _, _, hcb'⟩ := (hrb4.st hB5) (by omega)
              obtain ⟨A9, c9, AA, cA, b0, b1, b2, b3, b4, ry1, rb2⟩ := hcb' _ hx2'
              rw [hXaH.out] at a4 rx2
              rw [hYbH.out] at b3 ry1
              obtain ⟨i1, hi1⟩ : ∃ i1, i1 = P[k].1 := ⟨_, rfl⟩
              obtain ⟨i2, hi2⟩ : ∃ i2, i2 = P[k].2 := ⟨_, rfl⟩
              rw [← hi1] at u1 a4 hx1
              rw [← hi2] at u2 b3 hx2'
              have hi10 : (0 : Int) ≤ (i1 : Int) := Int.natCast_nonneg _
              have hi11 : (i1 : Int) < (a.length : Int) := by omega
              have hi20 : (0 : Int) ≤ (i2 : Int) := Int.natCast_nonneg _
              have hi21 : (i2 : Int) < (b.length : Int) := by omega
              have hk0 : (0 : Int) ≤ (k : Int) := Int.natCast_nonneg _
              have hk1 : (k : Int) < (P.length : Int) := by omega
              have hrl1 : (k : Int) < (rows.length : Int) := by rw [hprl.out]; exact hk1
              have hJ0 : (0 : Int) ≤ (J : Int) := Int.natCast_nonneg _
              have hJd : decide ((J : Int) < 0) = false := by simp
              have hJ1 : (J : Int) < (r.length : Int) := by omega
              skip
              have hB5H := Lib.hid hB5
              clear hb5 hbr hB5 hcr z1 z2 x0 x1 x2 x3 bk a0 a1 a2 a3 ra1 b0 b1 b2 b4 rb2 hca' hcb' hcc2 em hm hi1 hi2
              clear hgxH hprH hgx2H hPatH hPH qaH qbH q1H hXaH hYbH hZH hr hrb hrr hrr4 hra4 hrb4 hrr5 hml hfe hJl hgc hgc2 hlr hl hlb hfitH hne hne' hlenH hsc
              cases v1 : inB Z.time (X.time + p) (Y.time - q) with
              | false =>
                have hbad := hbadH.out (by rw [hfitJH.out, v1]; rfl)
                have v1H := Lib.hid v1
                clear v1 hfitJH hbadH hallH
                go_wp2_with fail
                go_quiet (((go_at_call 93; with_reducible exact l1In_q _ _ _ _ _ _ v1H.out)))
                have hB5 := hB5H.out
                go_wp2_with fail
                have hB := Lib.hid (hbd.trans ((below_drewN hB5 nq).mono hs4))
                clear hB5
                go_ret2
                exact ⟨by rw [hbad.out]; rfl, hB.out⟩
              | true =>
                have v1H := Lib.hid v1
                cases v2 : eqL Z.seen X.shown with
                | false =>
                  have hbad := hbadH.out (by rw [hfitJH.out, v1, v2]; rfl)
                  have v2H := Lib.hid v2
                  clear v1 v2 hfitJH hbadH hallH
                  go_wp2_with fail
                  go_quiet ((first | (go_at_call 93; with_reducible exact l1In_q _ _ _ _ _ _ v1H.out) | (go_at_call 94; with_reducible exact l1Same_q Z.seen X.shown _ _ _ _ _ _ rz1 rx2 hz1 hx2 _ v2H.out)))
                  have hB5 := hB5H.out
                  go_wp2_with fail
                  have hB := Lib.hid (hbd.trans ((below_drewN hB5 nq).mono hs4))
                  clear hB5
                  go_ret2
                  exact ⟨by rw [hbad.out]; rfl, hB.out⟩
                | true =>
                  have v2H := Lib.hid v2
                  cases v3 : eqL Z.shown Y.seen with
                  | false =>
                    have hbad := hbadH.out (by rw [hfitJH.out, v1, v2, v3]; rfl)
                    have v3H := Lib.hid v3
                    clear v1 v2 v3 hfitJH hbadH hallH
                    go_wp2_with fail
                    go_quiet ((first | (go_at_call 93; with_reducible exact l1In_q _ _ _ _ _ _ v1H.out) | (go_at_call 94; with_reducible exact l1Same_q Z.seen X.shown _ _ _ _ _ _ rz1 rx2 hz1 hx2 _ v2H.out) | (go_at_call 94; with_reducible exact l1Same_q Z.shown Y.seen _ _ _ _ _ _ rz2 ry1 hz2 hy1 _ v3H.out)))
                    have hB5 := hB5H.out
                    go_wp2_with fail
                    have hB := Lib.hid (hbd.trans ((below_drewN hB5 nq).mono hs4))
                    clear hB5
                    go_ret2
                    exact ⟨by rw [hbad.out]; rfl, hB.out⟩
                  | true =>
                    have hall2 := Lib.hid (show ∀ j (h : j < P.length), j < k + 1 → fitP r a b p q P[j] = true from fun j hj hjk => by
                      by_cases e : j = k
                      · subst e; rw [hfitJH.out, v1, v2, v3]; rfl
                      · exact hallH.out j hj (by omega))
                    have v3H := Lib.hid v3
                    clear v1 v2 v3 hfitJH hbadH hallH
                    go_wp2_with fail
                    go_quiet ((first | (go_at_call 93; with_reducible exact l1In_q _ _ _ _ _ _ v1H.out) | (go_at_call 94; with_reducible exact l1Same_q Z.seen X.shown _ _ _ _ _ _ rz1 rx2 hz1 hx2 _ v2H.out) | (go_at_call 94; with_reducible exact l1Same_q Z.shown Y.seen _ _ _ _ _ _ rz2 ry1 hz2 hy1 _ v3H.out)))
                    have hBd := Lib.hid (below_drewN hB5H.out nq)
                    go_wp2
                    go_roundw
                    case rel => exact ⟨k + 1, by omega, by go_num, hall2.out, hBd.out⟩
                    case measure => simp [intOf]; omega
          · have hfin : fitsB r a b p q = decide (P.length = r.length) := by rw [fits_all (fun j hj => by simp only [← hPH.out]; exact hallH.out j (by rw [hPH.out]; exact hj) (by rw [← hPH.out] at hj; omega)), ← hPH.out]
            have hB := Lib.hid (hbd.trans (hbr.mono hs4))
            have hv : fitsB r a b p q = true := by rw [hfin]; simpa using hlenH.out
            have hvH := Lib.hid hv
            clear hbr hv hfin
            go_wp2
            go_ret2
            exact ⟨by rw [hvH.out]; rfl, hB.out⟩
      · have hne : ((P.length : Int) != (r.length : Int)) = true := by simp; omega
        have hne' : (P.length != r.length) = true := by simpa using hlen
        have hbad := Lib.hid (fits_len (l := r) (a := a) (b := b) (v := p) (w := q) (by rw [← hPH.out]; exact hlen))
        go_wp2
        go_ret2
        exact ⟨by rw [hbad.out]; rfl, hbd⟩

set_option maxRecDepth 100000 in
set_option maxHeartbeats 8000000 in
theorem iFitsBetween_any (r : List Ent) (R : Option Addr) (f : Nat) (a : List Ent) (A : Option Addr) (c : Nat) (b : List Ent) (B : Option Addr) (d : Nat) (p q : Int) {l h l' h' l2 h2 : Nat} (w : World) (hrr0 : RdE w l2 h2 R r) (hr0 : RdE w l h A a) (hrb0 : RdE w l' h' B b) (hlr : eszL r ≤ 1048576) (hl : eszL a ≤ 1048576) (hlb : eszL b ≤ 1048576) (hcr : r.length ≤ f) (hca : a.length ≤ c) (hcb : b.length ≤ d) :
    Calls Try.prog 18 #[.slice R r.length f, .slice A a.length c, .slice B b.length d, .int .i64 p, .int .i64 q] w fun e w' => e = .returned (.tuple #[.bool (fbV r a b p q), .bool (fbB r a b p q)]) ∧ Below w.heap.size w w' := by
  have hr := hr0.std
  have hrb := hrb0.std
  have hrr := hrr0.std
  clear hr0 hrb0 hrr0
  cases q1 : logB r with
  | false =>
    have hq : fbB r a b p q = false := by simp [fbB, q1]
    rw [fbV_no hq, hq]
    clear hq
    go_enter Try.func18, Try.ntmps18
    go_wp2_with (go_at_call 89; (with_reducible refine (iIsLog_v r R f _ hrr hlr hcr _ q1).mono ?_); rintro e w1 ⟨rfl, hb1⟩)
    go_ret2
    exact ⟨rfl, hb1⟩
  | true =>
    cases q2 : ((logB a && logB b) && (inB p 0 60 && inB q 0 60)) with
    | false =>
      have hq : fbB r a b p q = false := by rw [fbB, q2, Bool.and_false]
      rw [fbV_no hq, hq]
      clear hq
      go_enter Try.func18, Try.ntmps18
      go_wp2_with fail
      (with_reducible refine (iIsLog_v r R f _ hrr hlr hcr _ q1).mono ?_)
      rintro e w1 ⟨rfl, hb1⟩
      go_wp2_with (go_at_call 95; (with_reducible refine (gapAsked_v a A c b B d p q _ (hr.st hb1) (hrb.st hb1) hl hlb hca hcb _ q2).mono ?_); rintro e w2 ⟨rfl, hb2⟩)
      have hbb := hb1.trans (hb2.mono hb1.size)
      go_ret2
      exact ⟨rfl, hbb⟩
    | true =>
      have hq : fbB r a b p q = true := by rw [fbB, q1, q2]; rfl
      rw [fbV_yes hq, hq]
      have q2' := q2
      simp only [Bool.and_eq_true, inB_iff] at q2'
      obtain ⟨⟨qa, qb⟩, ⟨qp0, qp1⟩, qq0, qq1⟩ := q2'
      have q1H := Lib.hid q1
      have qaH := Lib.hid qa
      have qbH := Lib.hid qb
      have hrl := log_len q1
      have hal := log_len qa
      have hbl := log_len qb
      clear hq qa qb
      go_enter Try.func18, Try.ntmps18
      go_wp2_with fail
      (with_reducible refine (iIsLog_v r R f _ hrr hlr hcr _ q1).mono ?_)
      rintro e w1 ⟨rfl, hb1⟩
      go_wp2_with fail
      (with_reducible refine (gapAsked_v a A c b B d p q _ (hr.st hb1) (hrb.st hb1) hl hlb hca hcb _ q2).mono ?_)
      rintro e w2 ⟨rfl, hb2⟩
      have hbb := hb1.trans (hb2.mono hb1.size)
      clear q1 q2 hb1 hb2
      go_wp2_with fail
      (with_reducible refine (together_any a A c b B d _ (hr.st hbb) (hrb.st hbb) (by omega) (by omega)).mono ?_)
      rintro e w4 ⟨v1, rows, rfl, ho1, hpr, hb4⟩
      have hsc := hbb.size
      have hbd := hbb.trans (hb4.mono hsc)
      have hrr4 := hrr.st hbd
      have hra4 := hr.st hbd
      have hrb4 := hrb.st hbd
      have hs4 := hbd.size
      obtain ⟨P, hP⟩ : ∃ P, P = tgTo a b a.length := ⟨_, rfl⟩
      rw [← hP] at hpr
      have hPl : P.length ≤ 30 := by
        have h1 := tgTo_len a b a.length
        rw [hP]; omega
      have hPat : ∀ j (hj : j < P.length), P[j].1 < a.length ∧ P[j].2 < b.length := fun j hj => by
        have hm : P[j] ∈ tgTo a b a.length := by rw [← hP]; exact List.getElem_mem hj
        exact tgTo_at _ hm
      obtain ⟨Ag, cg, rfl, hgc, _, _, hgx⟩ := ho1.cells
      have hPH := Lib.hid hP
      have hgxH := Lib.hid hgx
      have hPatH := Lib.hid hPat
      have hml := Lib.hid hpr.1
      have hprH := Lib.hid hpr
      clear hP hgx ho1 hb4 hbb hPat hpr
      go_wp2
      go_loopw [12, 15, 16, 33] (fun n _ _ i wr => ∃ k : Nat, k ≤ P.length ∧ i = .int .i64 k ∧ n = .int .i64 k ∧ (∀ j (h : j < P.length), j < k → fitP r a b p q P[j] = true) ∧ Below w4.heap.size w4 wr) (fun _ _ _ i _ => P.length - (intOf i).toNat)
      case atStart => exact ⟨0, Nat.zero_le _, rfl, rfl, fun j _ h => absurd h (by omega), Below.refl _ _⟩
      case round =>
        obtain ⟨k, hk, rfl, rfl, hall, hbr⟩ := hrel
        have hszr := hbr.size
        have hallH := Lib.hid hall
        clear hall
        have hrle : rows.length ≤ P.length := Nat.le_of_eq hml.out
        have hrle2 : P.length ≤ rows.length := Nat.le_of_eq hml.out.symm
        by_cases hlt : k < P.length
        · obtain ⟨hx1, hx2'⟩ := hPatH.out k hlt
          obtain ⟨X, hX⟩ : ∃ X, X = eAt a P[k].1 := ⟨_, rfl⟩
          obtain ⟨Y, hY⟩ : ∃ Y, Y = eAt b P[k].2 := ⟨_, rfl⟩
          have hXa : a[P[k].1] = X := by rw [hX, eAt_get hx1]
          have hYb : b[P[k].2] = Y := by rw [hY, eAt_get hx2']
          have tX := (log_at qaH.out _ hx1).1
          have sX := (log_at qaH.out _ hx1).2.2.2.2.1
          have tY := (log_at qbH.out _ hx2').1
          have sY := (log_at qbH.out _ hx2').2.2.2.1
          rw [hXa] at tX sX
          rw [hYb] at tY sY
          have hx2 : X.shown.length ≤ 9223372036854775807 := by have := sg_len sX; omega
          have hy1 : Y.seen.length ≤ 9223372036854775807 := by have := sg_len sY; omega
          have hfit : fitP r a b p q P[k] = (tgP r X && (inB (eAt r (tgJ r X)).time (X.time + p) (Y.time - q) && (eqL (eAt r (tgJ r X)).seen X.shown && eqL (eAt r (tgJ r X)).shown Y.seen))) := by
            simp only [fitP, ← hX, ← hY]
          have hbadF : fitP r a b p q P[k] = false → Hid (fitsB r a b p q = false) := fun hf => Lib.hid (fits_bad (j := k) (by rw [← hPH.out]; exact hlt) (by simp only [← hPH.out]; exact hf))
          have hfitH := Lib.hid hfit
          have hbadH := Lib.hid hbadF
          have hXaH := Lib.hid hXa
          have hYbH := Lib.hid hYb
          clear hfit hbadF sX sY hXa hYb
          have hlt2 : k < rows.length := by rw [hml.out]; exact hlt
          obtain ⟨g, rfl, _, _, hgl, _, hcc⟩ := hgxH.out (by omega)
          obtain ⟨rr1, rr2, hrr1, ⟨A1, c1, A2, c2, e1, q1, q2⟩, ⟨A3, c3, A4, c4, e2, q3, q4⟩⟩ := hprH.out.2 k hlt hlt2
          rw [e1, e2, ← hX, ← hY] at hrr1
          rw [← hX] at q1 q2
          rw [← hY] at q3 q4
          have hrow : ∀ i, i < 10 → wr.cell? ⟨g, k * 10 + i, none⟩ = (rows[k])[i]? := fun i hi => (hbr.cell (p := ⟨g, k * 10 + i, none⟩) hgl).trans (hcc k hlt2 i hi)
          rw [hrr1] at hrow
          have x0 : wr.cell? ⟨g, k * 10, none⟩ = some (.int .i64 X.time) := hrow 0 (by omega)
          have x1 : wr.cell? ⟨g, k * 10 + 1, none⟩ = some (.int .i64 X.msg) := hrow 1 (by omega)
          have x2 : wr.cell? ⟨g, k * 10 + 2, none⟩ = some (.int .i64 X.part) := hrow 2 (by omega)
          have x3 : wr.cell? ⟨g, k * 10 + 3, none⟩ = some (.slice A1 X.seen.length c1) := hrow 3 (by omega)
          have x4 : wr.cell? ⟨g, k * 10 + 4, none⟩ = some (.slice A2 X.shown.length c2) := hrow 4 (by omega)
          have x5 : wr.cell? ⟨g, k * 10 + 5, none⟩ = some (.int .i64 Y.time) := hrow 5 (by omega)
          have x6 : wr.cell? ⟨g, k * 10 + 6, none⟩ = some (.int .i64 Y.msg) := hrow 6 (by omega)
          have x7 : wr.cell? ⟨g, k * 10 + 7, none⟩ = some (.int .i64 Y.part) := hrow 7 (by omega)
          have x8 : wr.cell? ⟨g, k * 10 + 8, none⟩ = some (.slice A3 Y.seen.length c3) := hrow 8 (by omega)
          have x9 : wr.cell? ⟨g, k * 10 + 9, none⟩ = some (.slice A4 Y.shown.length c4) := hrow 9 (by omega)
          have hgl2 : g < wr.heap.size := by omega
          have q2r := q2.st hbr
          have q3r := q3.st hbr
          clear hrow hcc hrr1 e1 e2 hX hY q1 q2 q3 q4
          have hrr5 := hrr4.st hbr
          cases ht : tgP r X with
          | false =>
            have hbad := hbadH.out (by rw [hfitH.out, ht]; rfl)
            have hneg := find_neg ht
            clear ht
            go_wp2_with fail
            (with_reducible refine (entryIndex_n r R r.length f X.msg X.part _ (hrr5.alloc _) rfl (by omega) _ hneg).mono ?_)
            rintro e w5 ⟨rfl, hb5⟩
            have hB5 : Below w4.heap.size w4 w5 := (hbr.alloc hszr _).trans (hb5.mono (by simp; omega))
            clear hb5 hbr
            go_wp2_with fail
            go_quiet (fail)
            go_wp2_with fail
            have hB := Lib.hid (hbd.trans ((below_drewN hB5 nq).mono hs4))
            clear hB5
            go_ret2
            exact ⟨by rw [hbad.out]; rfl, hB.out⟩
          | true =>
            obtain ⟨hJl, hfe⟩ := tgP_lt ht
            obtain ⟨J, hJ⟩ : ∃ J, tgJ r X = J := ⟨_, rfl⟩
            rw [hJ] at hfe hJl
            have hfitJ : fitP r a b p q P[k] = (inB (eAt r J).time (X.time + p) (Y.time - q) && (eqL (eAt r J).seen X.shown && eqL (eAt r J).shown Y.seen)) := by rw [hfitH.out, ht, hJ]; rfl
            have hfitJH := Lib.hid hfitJ
            obtain ⟨Z, hZ⟩ : ∃ Z, eAt r J = Z := ⟨_, rfl⟩
            rw [hZ] at hfitJH
            have hZr : r[J] = Z := by rw [← hZ, eAt_get hJl]
            have tZ := (log_at q1H.out J hJl).1
            have sZ := (log_at q1H.out J hJl).2.2.2
            rw [hZr] at tZ sZ
            have hz1 : Z.seen.length ≤ 9223372036854775807 := by have := sg_len sZ.1; omega
            have hz2 : Z.shown.length ≤ 9223372036854775807 := by have := sg_len sZ.2.1; omega
            have hZH := Lib.hid hZr
            clear ht hJ hfitJ hZ sZ hZr
            go_wp2_with fail
            (with_reducible refine (entryIndex_n r R r.length f X.msg X.part _ (hrr5.alloc _) rfl (by omega) _ hfe).mono ?_)
            rintro e w5 ⟨rfl, hb5⟩
            have s5 : wr.heap.size + 1 ≤ w5.heap.size := by have := hb5.size; simpa using this
            have hB5 : Below w4.heap.size w4 w5 := (hbr.alloc hszr _).trans (hb5.mono (by simp; omega))
            have bk := (Bk.new wr 110 #[.int .i64 X.time, .int .i64 X.msg, .int .i64 X.part, .slice A1 X.seen.length c1, .slice A2 X.shown.length c2, .int .i64 Y.time, .int .i64 Y.msg, .int .i64 Y.part, .slice A3 Y.seen.length c3, .slice A4 Y.shown.length c4]).st hb5
            have y0 := bk.cell 0
            have y4 := bk.cell 4
            have y5 := bk.cell 5
            have y8 := bk.cell 8
            simp at y0 y4 y5 y8
            have rx2 := (q2r.alloc (.cells #[.int .i64 X.time, .int .i64 X.msg, .int .i64 X.part, .slice A1 X.seen.length c1, .slice A2 X.shown.length c2, .int .i64 Y.time, .int .i64 Y.msg, .int .i64 Y.part, .slice A3 Y.seen.length c3, .slice A4 Y.shown.length c4] 110)).st hb5
            have ry1 := (q3r.alloc (.cells #[.int .i64 X.time, .int .i64 X.msg, .int .i64 X.part, .slice A1 X.seen.length c1, .slice A2 X.shown.length c2, .int .i64 Y.time, .int .i64 Y.msg, .int .i64 Y.part, .slice A3 Y.seen.length c3, .slice A4 Y.shown.length c4] 110)).st hb5
            obtain ⟨br, offr, rfl, _, _, hcr⟩ := (hrr4.st hB5) (by omega)
            obtain ⟨A5, c5, A6, c6, z0, z1, z2, z3, z4, rz1, rz2⟩ := hcr J hJl
            rw [hZH.out] at z0 z1 z2 z3 z4 rz1 rz2
            skip
            have hJ0 : (0 : Int) ≤ (J : Int) := Int.natCast_nonneg _
            have hJd : decide ((J : Int) < 0) = false := by simp
            have hJ1 : (J : Int) < (r.length : Int) := by omega
            have hw1 : IntKind.i64.wrap (X.time + p) = X.time + p := IntWalk.i64_in _ (by omega)
            have hw2 : IntKind.i64.wrap (Y.time - q) = Y.time - q := IntWalk.i64_in _ (by omega)
            have hB5H := Lib.hid hB5
            clear hb5 hbr hB5 hcr z1 z2 x0 x1 x2 x3 x4 x5 x6 x7 x8 x9 bk q2r q3r
            clear hgxH hprH hPatH hPH qaH qbH q1H hXaH hYbH hZH hr hrb hrr hrr4 hra4 hrb4 hrr5 hml hfe hJl hgc hlr hl hlb hfitH hsc
            cases v1 : inB Z.time (X.time + p) (Y.time - q) with
            | false =>
              have hbad := hbadH.out (by rw [hfitJH.out, v1]; rfl)
              have v1H := Lib.hid v1
              clear v1 hfitJH hbadH hallH
              go_wp2_with fail
              go_quiet (((go_at_call 96; with_reducible exact within_q _ _ _ _ _ _ v1H.out)))
              have hB5 := hB5H.out
              go_wp2_with fail
              have hB := Lib.hid (hbd.trans ((below_drewN hB5 nq).mono hs4))
              clear hB5
              go_ret2
              exact ⟨by rw [hbad.out]; rfl, hB.out⟩
            | true =>
              have v1H := Lib.hid v1
              cases v2 : eqL Z.seen X.shown with
              | false =>
                have hbad := hbadH.out (by rw [hfitJH.out, v1, v2]; rfl)
                have v2H := Lib.hid v2
                clear v1 v2 hfitJH hbadH hallH
                go_wp2_with fail
                go_quiet ((first | (go_at_call 96; with_reducible exact within_q _ _ _ _ _ _ v1H.out) | (go_at_call 97; with_reducible exact slEqual_q Z.seen X.shown _ _ _ _ _ _ rz1 rx2 hz1 hx2 _ v2H.out)))
                have hB5 := hB5H.out
                go_wp2_with fail
                have hB := Lib.hid (hbd.trans ((below_drewN hB5 nq).mono hs4))
                clear hB5
                go_ret2
                exact ⟨by rw [hbad.out]; rfl, hB.out⟩
              | true =>
                have v2H := Lib.hid v2
                cases v3 : eqL Z.shown Y.seen with
                | false =>
                  have hbad := hbadH.out (by rw [hfitJH.out, v1, v2, v3]; rfl)
                  have v3H := Lib.hid v3
                  clear v1 v2 v3 hfitJH hbadH hallH
                  go_wp2_with fail
                  go_quiet ((first | (go_at_call 96; with_reducible exact within_q _ _ _ _ _ _ v1H.out) | (go_at_call 97; with_reducible exact slEqual_q Z.seen X.shown _ _ _ _ _ _ rz1 rx2 hz1 hx2 _ v2H.out) | (go_at_call 97; with_reducible exact slEqual_q Z.shown Y.seen _ _ _ _ _ _ rz2 ry1 hz2 hy1 _ v3H.out)))
                  have hB5 := hB5H.out
                  go_wp2_with fail
                  have hB := Lib.hid (hbd.trans ((below_drewN hB5 nq).mono hs4))
                  clear hB5
                  go_ret2
                  exact ⟨by rw [hbad.out]; rfl, hB.out⟩
                | true =>
                  have hall2 := Lib.hid (show ∀ j (h : j < P.length), j < k + 1 → fitP r a b p q P[j] = true from fun j hj hjk => by
                    by_cases e : j = k
                    · subst e; rw [hfitJH.out, v1, v2, v3]; rfl
                    · exact hallH.out j hj (by omega))
                  have v3H := Lib.hid v3
                  clear v1 v2 v3 hfitJH hbadH hallH
                  go_wp2_with fail
                  go_quiet ((first | (go_at_call 96; with_reducible exact within_q _ _ _ _ _ _ v1H.out) | (go_at_call 97; with_reducible exact slEqual_q Z.seen X.shown _ _ _ _ _ _ rz1 rx2 hz1 hx2 _ v2H.out) | (go_at_call 97; with_reducible exact slEqual_q Z.shown Y.seen _ _ _ _ _ _ rz2 ry1 hz2 hy1 _ v3H.out)))
                  have hBd := Lib.hid (below_drewN hB5H.out nq)
                  go_wp2
                  go_roundw
                  case rel => exact ⟨k + 1, by omega, by go_num, by go_num, hall2.out, hBd.out⟩
                  case measure => simp [intOf]; omega
        · have hfin : fitsB r a b p q = decide (P.length = r.length) := by rw [fits_all (fun j hj => by simp only [← hPH.out]; exact hallH.out j (by rw [hPH.out]; exact hj) (by rw [← hPH.out] at hj; omega)), ← hPH.out]
          have hB := Lib.hid (hbd.trans (hbr.mono hs4))
          obtain rfl : k = P.length := by omega
          have hvH := Lib.hid hfin
          clear hbr hfin
          go_wp2
          go_ret2
          exact ⟨ret_bb ((beq_dec _ _).trans hvH.out.symm), hB.out⟩
end Go.Proofs.Ytbagliaelolhcaa
