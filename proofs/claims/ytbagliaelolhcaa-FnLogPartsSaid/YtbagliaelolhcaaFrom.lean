/-
  Contracts of EntriesFrom, in the reference and in the program. The conditions are bounds on lengths.
-/
import Derived.Test.YtbagliaelolhcaaClone
import Derived.Test.YtbagliaelolhcaaInU
import Derived.Test.YtbagliaelolhcaaFindE
namespace Go.Proofs.Ytbagliaelolhcaa
open Go.RowKit Go.ChangeShapes Go.WideShapes
set_option linter.unusedVariables false
set_option linter.unusedSimpArgs false

set_option maxRecDepth 100000 in
set_option maxHeartbeats 4000000 in
theorem sEntriesFrom_any (es : List Ent) (A : Option Addr) (c : Nat) (f t : Int) {l h : Nat} (w : World) (hr0 : RdE w l h A es) (hl : eszL es ≤ 1048576) :
    Calls Try.prog 19 #[.slice A es.length c, .int .i64 f, .int .i64 t] w fun e w' => ∃ A c, e = .returned (.tuple #[.slice A (efL es f t).length c, .bool (efB es f t)]) ∧ RdE w' 0 w'.heap.size A (efL es f t) ∧ eszL (efL es f t) ≤ 1048576 ∧ Below w.heap.size w w' := by
  have hr := hr0.std
  clear hr0
  cases q1 : logB es with
  | false =>
    have hq : efB es f t = false := by simp [efB, q1]
    rw [efL_no hq, hq]
    clear hq
    go_enter Try.func19, Try.ntmps19
    go_wp2_with (go_at_call 86; (with_reducible refine (lgGood_v es A c _ hr hl _ q1).mono ?_); rintro e w1 ⟨rfl, hb1⟩)
    go_ret2
    exact ⟨none, 0, rfl, RdE.nil, by rw [esz_nil]; omega, hb1⟩
  | true =>
    cases q2 : inB f 0 10000 with
    | false =>
      have hq : efB es f t = false := by simp [efB, q2]
      rw [efL_no hq, hq]
      clear hq
      go_enter Try.func19, Try.ntmps19
      go_wp2_with fail
      (with_reducible refine (lgGood_v es A c _ hr hl _ q1).mono ?_)
      rintro e w1 ⟨rfl, hb1⟩
      go_wp2_with (go_at_call 93; (with_reducible refine (l1In_u f 0 10000 _ _ q2).mono ?_); rintro e w2 ⟨rfl, rfl⟩)
      go_ret2
      exact ⟨none, 0, rfl, RdE.nil, by rw [esz_nil]; omega, hb1⟩
    | true =>
      cases q3 : inB t 0 10000 with
      | false =>
        have hq : efB es f t = false := by simp [efB, q3]
        rw [efL_no hq, hq]
        clear hq
        go_enter Try.func19, Try.ntmps19
        go_wp2_with fail
        (with_reducible refine (lgGood_v es A c _ hr hl _ q1).mono ?_)
        rintro e w1 ⟨rfl, hb1⟩
        go_wp2_with fail
        (with_reducible refine (l1In_u f 0 10000 _ _ q2).mono ?_)
        rintro e w2 ⟨rfl, rfl⟩
        go_wp2_with fail
        (with_reducible refine (l1In_u t 0 10000 _ _ q3).mono ?_)
        rintro e w3 ⟨rfl, rfl⟩
        go_wp2
        go_ret2
        exact ⟨none, 0, rfl, RdE.nil, by rw [esz_nil]; omega, hb1⟩
      | true =>
        have hq : efB es f t = true := by simp [efB, q1, q2, q3]
        have hsz := Lib.hid (Nat.le_trans (efL_esz es f t) hl)
        rw [efL_yes hq] at hsz ⊢
        rw [hq]
        clear hq
        have hel := log_len q1
        go_enter Try.func19, Try.ntmps19
        go_wp2_with fail
        (with_reducible refine (lgGood_v es A c _ hr hl _ q1).mono ?_)
        rintro e w1 ⟨rfl, hb1⟩
        go_wp2_with fail
        (with_reducible refine (l1In_u f 0 10000 _ _ q2).mono ?_)
        rintro e w2 ⟨rfl, rfl⟩
        go_wp2_with fail
        (with_reducible refine (l1In_u t 0 10000 _ _ q3).mono ?_)
        rintro e w3 ⟨rfl, rfl⟩
        have s1 := hb1.size
        have hr1 := hr.st hb1
        clear q1 q2 q3
        go_wp2
        go_loopw [8, 10, 26] (fun v _ i wr => ∃ (k : Nat) (rows : List (List Value)), k ≤ es.length ∧ i = .int .i64 k ∧ OwnR wr w1.heap.size wr.heap.size 42 5 v rows ∧ EntRows wr 0 w.heap.size (selTo es f t k) rows ∧ Below w1.heap.size w1 wr) (fun _ _ i _ => es.length - (intOf i).toNat)
        case atStart => exact ⟨0, [], Nat.zero_le _, rfl, OwnR.nil, EntRows.nil, Below.refl _ _⟩
        case round =>
          obtain ⟨k, rows, hk, rfl, hown, hen, hbr⟩ := hrel
          have hszr := hbr.size
          obtain ⟨Av, cv, rfl, hvc, hvm, -, -⟩ := hown.cells
          by_cases hlt : k < es.length
          · obtain ⟨b0, off, rfl, _, hb0, hc⟩ := (hr1.st hbr) (by omega)
            obtain ⟨A1, c1, A2, c2, x0, x1, x2, x3, x4, r1, r2⟩ := hc k hlt
            have hrl : rows.length ≤ 30 := by have h1 := hen.1; have h2 := selTo_len es f t k; omega
            have hrow : EntRow wr 0 w.heap.size es[k] [.int .i64 es[k].time, .int .i64 es[k].msg, .int .i64 es[k].part, .slice A1 es[k].seen.length c1, .slice A2 es[k].shown.length c2] := ⟨A1, c1, A2, c2, rfl, r1, r2⟩
            obtain ⟨EB, hEB⟩ : ∃ EB, EB = Obj.cells #[.int .i64 es[k].time, .int .i64 es[k].msg, .int .i64 es[k].part, .slice A1 es[k].seen.length c1, .slice A2 es[k].shown.length c2] 42 (0, 0) := ⟨_, rfl⟩
            have hO1 := (hown.alloc EB).mono (Nat.le_refl _) (show wr.heap.size ≤ (wr.alloc EB).heap.size by simp)
            have hE1 := hen.keep (w' := wr.alloc EB) (fun b o _ _ h3 => World.cell?_alloc_lt wr _ _ (by exact h3))
            have hB1 := hbr.alloc hszr EB
            cases hi : inB es[k].time f t with
            | false =>
              have hst := Lib.hid (selTo_no hlt hi)
              rw [hEB] at hO1 hE1 hB1
              have hOH := Lib.hid hO1
              have hEH := Lib.hid hE1
              have hBH := Lib.hid hB1
              clear hc r1 r2 hrow hown hen hbr hEB hO1 hE1 hB1
              go_wp2_with fail
              (with_reducible refine (l1In_u es[k].time f t _ _ hi).mono ?_)
              rintro e w4 ⟨rfl, rfl⟩
              clear hi
              go_wp2
              go_roundw
              case rel => exact ⟨k + 1, rows, by omega, by go_num, hOH.out, by rw [hst.out]; exact hEH.out, hBH.out⟩
              case measure => simp [intOf]; omega
            | true =>
              have hst := Lib.hid (selTo_yes hlt hi)
              obtain ⟨NB, hNB⟩ : ∃ NB, NB = Obj.cells #[.int .i64 es[k].time, .int .i64 es[k].msg, .int .i64 es[k].part, .slice A1 es[k].seen.length c1, .slice A2 es[k].shown.length c2] 42 (0, 0) := ⟨_, rfl⟩
              have hO2 := hO1.alloc NB
              have hE2 := hE1.keep (w' := (wr.alloc EB).alloc NB) (fun b o _ _ h3 => World.cell?_alloc_lt _ _ _ (by exact h3))
              have hrow2 := (hrow.keep (w' := wr.alloc EB) (fun b o _ _ h3 => World.cell?_alloc_lt wr _ _ (by exact h3))).keep (w' := (wr.alloc EB).alloc NB) (fun b o _ _ h3 => World.cell?_alloc_lt _ _ _ (by exact h3))
              have hB2 := hB1.alloc (by simp; omega) NB
              have hbk : Bk ((wr.alloc EB).alloc NB) (wr.heap.size + 1) 42 #[.int .i64 es[k].time, .int .i64 es[k].msg, .int .i64 es[k].part, .slice A1 es[k].seen.length c1, .slice A2 es[k].shown.length c2] := by rw [hNB]; exact Bk.new2 wr _ _ _
              have hcell : ∀ i (hi : i < [[Value.int .i64 es[k].time, .int .i64 es[k].msg, .int .i64 es[k].part, .slice A1 es[k].seen.length c1, .slice A2 es[k].shown.length c2]].length) u, u < 5 → ((wr.alloc EB).alloc NB).cell? ⟨wr.heap.size + 1, i * 5 + u, none⟩ = ([[Value.int .i64 es[k].time, .int .i64 es[k].msg, .int .i64 es[k].part, .slice A1 es[k].seen.length c1, .slice A2 es[k].shown.length c2]][i])[u]? := fun i hi u hu => by
                obtain rfl : i = 0 := by simpa using hi
                rw [Nat.zero_mul, Nat.zero_add, hbk.cell u]
                simp
              rw [hEB, hNB] at hO2 hE2 hrow2 hB2 hcell
              have hcH := Lib.hid hcell
              have hOH := Lib.hid hO2
              have hEH := Lib.hid hE2
              have hRH := Lib.hid hrow2
              have hBH := Lib.hid hB2
              clear hc r1 r2 hrow hown hen hbr hEB hO1 hE1 hB1 hO2 hE2 hrow2 hB2 hbk hcell hNB
              go_wp2_with fail
              (with_reducible refine (l1In_u es[k].time f t _ _ hi).mono ?_)
              rintro e w4 ⟨rfl, rfl⟩
              clear hi
              go_wp2_with (at_builtin; refine wp_append_rows rfl (.tmp 35) (.tmp 37) rfl Try.underlying26 entInfo rfl (by omega) rfl hOH.out (news := [[.int .i64 es[k].time, .int .i64 es[k].msg, .int .i64 es[k].part, .slice A1 es[k].seen.length c1, .slice A2 es[k].shown.length c2]]) (by rfl) hcH.out (by simp) (by simp [Value.oneCell']) (by simp; omega) (by omega) (by simp; omega) ?_; intro v5 w5 ho5 hg5 hb5 hat5)
              have hE5 := ((hEH.out.below hb5 (by omega)).snoc (hRH.out.keep fun b o _ h2 _ => hb5.cell (p := ⟨b, o, none⟩) (by show b < w1.heap.size; omega)))
              have hE5H := Lib.hid hE5
              have hB5 := Lib.hid (hBH.out.trans hb5)
              have ho5H := Lib.hid ho5
              clear ho5 hg5 hb5 hE5
              go_roundw
              case rel => exact ⟨k + 1, _, by omega, by go_num, ho5H.out, by rw [hst.out]; exact hE5H.out, hB5.out⟩
              case measure => simp [intOf]; omega
          · obtain rfl : k = es.length := by omega
            have hB := hb1.trans (hbr.mono s1)
            obtain ⟨hrd, hn, _, _, _⟩ := hown.rdE hen
            have hs5 := hB.size
            have hnH := Lib.hid hn
            clear hown hen hbr
            go_wp2_with fail
            rw [hnH.out]
            (with_reducible refine (lgOwn_any (selTo es f t es.length) Av cv _ hrd hsz.out).mono ?_)
            rintro e w6 ⟨v6, rows6, rfl, o6, e6, hb6⟩
            have hO := EntsOwn.ownE o6 e6
            obtain ⟨A7, c7, rfl, hrd7, _⟩ := hO.rd
            have hR := Lib.hid hrd7.std
            have hB6 := Lib.hid (hB.trans (hb6.mono hs5))
            clear hb6 hB o6 e6 hO hrd7
            go_wp2
            go_ret2
            exact ⟨_, _, rfl, hR.out, hsz.out, hB6.out⟩
theorem in_ge {x f t : Int} (h : inB x f t = true) : f ≤ x ∧ x ≤ t := inB_iff.1 h
set_option maxRecDepth 100000 in
set_option maxHeartbeats 4000000 in
theorem iEntriesFrom_any (es : List Ent) (A : Option Addr) (c : Nat) (f t : Int) {l h : Nat} (w : World) (hr0 : RdE w l h A es) (hl : eszL es ≤ 1048576) (hca : es.length ≤ c) :
    Calls Try.prog 20 #[.slice A es.length c, .int .i64 f, .int .i64 t] w fun e w' => ∃ A c, e = .returned (.tuple #[.slice A (efL es f t).length c, .bool (efB es f t)]) ∧ OwnE w' w.heap.size w'.heap.size (.slice A (efL es f t).length c) (efL es f t) ∧ eszL (efL es f t) ≤ 1048576 ∧ Below w.heap.size w w' := by
  have hr := hr0.std
  clear hr0
  cases q1 : logB es with
  | false =>
    have hq : efB es f t = false := by simp [efB, q1]
    rw [efL_no hq, hq]
    clear hq
    go_enter Try.func20, Try.ntmps20
    go_wp2_with (go_at_call 89; (with_reducible refine (iIsLog_v es A c _ hr hl hca _ q1).mono ?_); rintro e w1 ⟨rfl, hb1⟩)
    go_ret2
    exact ⟨none, 0, rfl, OwnE.nil, by rw [esz_nil]; omega, hb1⟩
  | true =>
    by_cases hin : (0 ≤ f ∧ f ≤ 10000) ∧ (0 ≤ t ∧ t ≤ 10000)
    · obtain ⟨⟨f0, f1⟩, t0, t1⟩ := hin
      have hq : efB es f t = true := by simp [efB, q1, inB, f0, f1, t0, t1]
      have hsz := Lib.hid (Nat.le_trans (efL_esz es f t) hl)
      rw [efL_yes hq] at hsz ⊢
      rw [hq]
      clear hq
      have hel := log_len q1
      go_enter Try.func20, Try.ntmps20
      go_wp2_with fail
      (with_reducible refine (iIsLog_v es A c _ hr hl hca _ q1).mono ?_)
      rintro e w1 ⟨rfl, hb1⟩
      have s1 := hb1.size
      go_wp2_with fail
      (with_reducible refine (cloneLog_any es A c _ (hr.st hb1) hl).mono ?_)
      rintro e w2 ⟨v2, rows2, rfl, o2, e2, hb2⟩
      have s2 := hb2.size
      have hB2 := hb1.trans (hb2.mono s1)
      obtain ⟨A2, c2, rfl, hvc2, hvm2, -, hx2⟩ := o2.cells
      have hlen2 := e2.len
      have hle1 : rows2.length ≤ es.length := Nat.le_of_eq hlen2
      have hle2 : es.length ≤ rows2.length := Nat.le_of_eq hlen2.symm
      have hx2H := Lib.hid hx2
      have e2H := Lib.hid e2
      clear q1 hlen2 hx2 o2 e2 hb1 hb2
      go_wp2
      go_loopw [8, 10, 33] (fun v _ i wr => ∃ (k : Nat) (rows : List (List Value)), k ≤ rows2.length ∧ i = .int .i64 k ∧ OwnR wr w2.heap.size wr.heap.size 42 5 v rows ∧ EntsOwn wr w1.heap.size w2.heap.size (selTo es f t k) rows ∧ (∀ s ∈ rows, ∃ j, j < k ∧ rows2[j]? = some s) ∧ Below w2.heap.size w2 wr) (fun _ _ i _ => rows2.length - (intOf i).toNat)
      case atStart => exact ⟨0, [], Nat.zero_le _, rfl, OwnR.nil, EntsOwn.nil, fun s hs => absurd hs (by simp), Below.refl _ _⟩
      case round =>
        obtain ⟨k, rows, hk, rfl, hown, hen, hsub, hbr⟩ := hrel
        have hszr := hbr.size
        obtain ⟨Av, cv, rfl, hvc, hvm, -, -⟩ := hown.cells
        by_cases hlt : k < rows2.length
        · have hlt' : k < es.length := by omega
          obtain ⟨g, rfl, hg0, _, hgl, _, hcc⟩ := hx2H.out (by omega)
          obtain ⟨u, v, hrw, ou, ov, dj⟩ := e2H.out.ent k hlt' hlt
          obtain ⟨Au, cu, rfl, _, _⟩ := ou.rd
          obtain ⟨Aw, cw, rfl, _, _⟩ := ov.rd
          have hrow : ∀ i, i < 5 → wr.cell? ⟨g, k * 5 + i, none⟩ = (rows2[k])[i]? := fun i hi => (hbr.cell (p := ⟨g, k * 5 + i, none⟩) hgl).trans (hcc k hlt i hi)
          rw [hrw] at hrow
          have x0 : wr.cell? ⟨g, k * 5, none⟩ = some (.int .i64 es[k].time) := hrow 0 (by omega)
          have x1 : wr.cell? ⟨g, k * 5 + 1, none⟩ = some (.int .i64 es[k].msg) := hrow 1 (by omega)
          have x2 : wr.cell? ⟨g, k * 5 + 2, none⟩ = some (.int .i64 es[k].part) := hrow 2 (by omega)
          have x3 : wr.cell? ⟨g, k * 5 + 3, none⟩ = some (.slice Au es[k].seen.length cu) := hrow 3 (by omega)
          have x4 : wr.cell? ⟨g, k * 5 + 4, none⟩ = some (.slice Aw es[k].shown.length cw) := hrow 4 (by omega)
          have hgl2 : g < wr.heap.size := by omega
          have hrl : rows.length ≤ 30 := by have h1 := hen.len; have h2 := selTo_len es f t k; omega
          have hentk := (e2H.out.ent k hlt' hlt).keep (w' := wr) (fun q _ h2 _ => hbr.block q h2)
          rw [hrw] at hentk
          have hdjk : ∀ s ∈ rows, DjR s (rows2[k]) := fun s hs => by
            obtain ⟨j, hj, hsj⟩ := hsub s hs
            obtain ⟨hj2, rfl⟩ := List.getElem?_eq_some_iff.1 hsj
            exact List.pairwise_iff_getElem.1 e2H.out.dj j k hj2 hlt hj
          have hat : rows2[k]? = some (rows2[k]) := List.getElem?_eq_getElem hlt
          rw [hrw] at hdjk hat
          obtain ⟨EB, hEB⟩ : ∃ EB, EB = Obj.cells #[.int .i64 es[k].time, .int .i64 es[k].msg, .int .i64 es[k].part, .slice Au es[k].seen.length cu, .slice Aw es[k].shown.length cw] 42 (0, 0) := ⟨_, rfl⟩
          have hO1 := (hown.alloc EB).mono (Nat.le_refl _) (show wr.heap.size ≤ (wr.alloc EB).heap.size by simp)
          have hE1 := hen.alloc EB
          have hB1 := hbr.alloc hszr EB
          have hentk1 := hentk.keep (w' := wr.alloc EB) (fun q _ _ h3 => Below.heap_alloc wr EB q h3)
          clear hrow hcc hrw ou ov dj
          by_cases hi : f ≤ es[k].time
          · by_cases hi2 : es[k].time ≤ t
            · have hst := Lib.hid (selTo_yes (f := f) (t := t) hlt' (inB_iff.2 ⟨hi, hi2⟩))
              obtain ⟨NB, hNB⟩ : ∃ NB, NB = Obj.cells #[.int .i64 es[k].time, .int .i64 es[k].msg, .int .i64 es[k].part, .slice Au es[k].seen.length cu, .slice Aw es[k].shown.length cw] 42 (0, 0) := ⟨_, rfl⟩
              have hO2 := hO1.alloc NB
              have hE2 := hE1.alloc NB
              have hentk2 := hentk1.keep (w' := (wr.alloc EB).alloc NB) (fun q _ _ h3 => Below.heap_alloc _ NB q h3)
              have hB2' := hB1.alloc (by simp; omega) NB
              have hbk : Bk ((wr.alloc EB).alloc NB) (wr.heap.size + 1) 42 #[.int .i64 es[k].time, .int .i64 es[k].msg, .int .i64 es[k].part, .slice Au es[k].seen.length cu, .slice Aw es[k].shown.length cw] := by rw [hNB]; exact Bk.new2 wr _ _ _
              have hcell : ∀ i (hi : i < [[Value.int .i64 es[k].time, .int .i64 es[k].msg, .int .i64 es[k].part, .slice Au es[k].seen.length cu, .slice Aw es[k].shown.length cw]].length) u, u < 5 → ((wr.alloc EB).alloc NB).cell? ⟨wr.heap.size + 1, i * 5 + u, none⟩ = ([[Value.int .i64 es[k].time, .int .i64 es[k].msg, .int .i64 es[k].part, .slice Au es[k].seen.length cu, .slice Aw es[k].shown.length cw]][i])[u]? := fun i hi u hu => by
                obtain rfl : i = 0 := by simpa using hi
                rw [Nat.zero_mul, Nat.zero_add, hbk.cell u]
                simp
              rw [hEB, hNB] at hO2 hE2 hentk2 hB2' hcell
              have hcH := Lib.hid hcell
              have hOH := Lib.hid hO2
              have hEH := Lib.hid hE2
              have hRH := Lib.hid hentk2
              have hBH := Lib.hid hB2'
              have hdH := Lib.hid hdjk
              have hsH := Lib.hid hsub
              have haH := Lib.hid hat
              clear hown hen hbr hEB hO1 hE1 hB1 hO2 hE2 hentk hentk1 hentk2 hB2' hbk hcell hNB hdjk hsub hat
              go_wp2_with (at_builtin; refine wp_append_rows rfl (.tmp 47) (.tmp 49) rfl Try.underlying26 entInfo rfl (by omega) rfl hOH.out (news := [[.int .i64 es[k].time, .int .i64 es[k].msg, .int .i64 es[k].part, .slice Au es[k].seen.length cu, .slice Aw es[k].shown.length cw]]) (by rfl) hcH.out (by simp) (by simp [Value.oneCell']) (by simp; omega) (by omega) (by simp; omega) ?_; intro v5 w5 ho5 hg5 hb5 hat5)
              have hE5 := (hEH.out.below hb5 (Nat.le_refl _)).snoc (hRH.out.keep fun q _ h2 _ => hb5.block q h2) hdH.out
              have hE5H := Lib.hid hE5
              have hB5 := Lib.hid (hBH.out.trans hb5)
              have ho5H := Lib.hid ho5
              have hs5 := Lib.hid (show ∀ s ∈ rows ++ [[.int .i64 es[k].time, .int .i64 es[k].msg, .int .i64 es[k].part, .slice Au es[k].seen.length cu, .slice Aw es[k].shown.length cw]], ∃ j, j < k + 1 ∧ rows2[j]? = some s from fun s hs => by
                rcases List.mem_append.1 hs with hs | hs
                · obtain ⟨j, h1, h2⟩ := hsH.out s hs
                  exact ⟨j, by omega, h2⟩
                · rw [List.mem_singleton.1 hs]
                  exact ⟨k, by omega, haH.out⟩)
              clear ho5 hg5 hb5 hE5
              go_roundw
              case rel => exact ⟨k + 1, _, by omega, by go_num, ho5H.out, by rw [hst.out]; exact hE5H.out, hs5.out, hB5.out⟩
              case measure => simp [intOf]; omega
            · have hst := Lib.hid (selTo_no (f := f) (t := t) hlt' (inB_f (by omega)))
              rw [hEB] at hO1 hE1 hB1
              have hOH := Lib.hid hO1
              have hEH := Lib.hid hE1
              have hBH := Lib.hid hB1
              have hsH := Lib.hid (show ∀ s ∈ rows, ∃ j, j < k + 1 ∧ rows2[j]? = some s from fun s hs => by obtain ⟨j, h1, h2⟩ := hsub s hs; exact ⟨j, by omega, h2⟩)
              have hd1 : decide (es[k].time ≤ t) = false := by simpa using hi2
              clear hown hen hbr hEB hO1 hE1 hB1 hentk hentk1 hdjk hsub hat
              go_wp2
              go_roundw
              case rel => exact ⟨k + 1, rows, by omega, by go_num, hOH.out, by rw [hst.out]; exact hEH.out, hsH.out, hBH.out⟩
              case measure => simp [intOf]; omega
          · have hst := Lib.hid (selTo_no (f := f) (t := t) hlt' (inB_f (by omega)))
            rw [hEB] at hO1 hE1 hB1
            have hOH := Lib.hid hO1
            have hEH := Lib.hid hE1
            have hBH := Lib.hid hB1
            have hsH := Lib.hid (show ∀ s ∈ rows, ∃ j, j < k + 1 ∧ rows2[j]? = some s from fun s hs => by obtain ⟨j, h1, h2⟩ := hsub s hs; exact ⟨j, by omega, h2⟩)
            have hd1 : decide (f ≤ es[k].time) = false := by simpa using hi
            clear hown hen hbr hEB hO1 hE1 hB1 hentk hentk1 hdjk hsub hat
            go_wp2
            go_roundw
            case rel => exact ⟨k + 1, rows, by omega, by go_num, hOH.out, by rw [hst.out]; exact hEH.out, hsH.out, hBH.out⟩
            case measure => simp [intOf]; omega
        · have hke : k = es.length := by omega
          have hB := hB2.trans (hbr.mono (by omega))
          have hsz3 := hB.size
          have hO := EntsOwn.ownE (hown.mono (show w.heap.size ≤ w2.heap.size by omega) (Nat.le_refl _)) (hen.mono (show w.heap.size ≤ w1.heap.size by omega) (show w2.heap.size ≤ wr.heap.size by omega))
          rw [hke] at hO
          obtain ⟨A7, c7, e7, _, _⟩ := hO.rd
          injection e7 with e7a e7b e7c
          have e7H := Lib.hid e7b
          have hOH := Lib.hid hO
          clear hown hen hbr hsub hO e7b hke
          go_wp2
          go_ret2
          exact ⟨Av, cv, by rw [e7H.out]; rfl, by rw [← e7H.out]; exact hOH.out, hsz.out, hB⟩
    · have hq : efB es f t = false := by
        rw [efB, Bool.and_eq_false_iff]
        right
        rw [Bool.and_eq_false_iff]
        by_cases h1 : 0 ≤ f ∧ f ≤ 10000
        · exact .inr (inB_f fun h2 => hin ⟨h1, h2⟩)
        · exact .inl (inB_f h1)
      rw [efL_no hq, hq]
      clear hq
      go_enter Try.func20, Try.ntmps20
      go_wp2_with fail
      (with_reducible refine (iIsLog_v es A c _ hr hl hca _ q1).mono ?_)
      rintro e w1 ⟨rfl, hb1⟩
      by_cases a1 : f < 0
      · go_wp2
        go_ret2
        exact ⟨none, 0, rfl, OwnE.nil, by rw [esz_nil]; omega, hb1⟩
      · have d1 : decide (f < 0) = false := by simpa using a1
        by_cases a2 : 10000 < f
        · go_wp2
          go_ret2
          exact ⟨none, 0, rfl, OwnE.nil, by rw [esz_nil]; omega, hb1⟩
        · have d2 : decide (10000 < f) = false := by simpa using a2
          by_cases a3 : t < 0
          · go_wp2
            go_ret2
            exact ⟨none, 0, rfl, OwnE.nil, by rw [esz_nil]; omega, hb1⟩
          · have d3 : decide (t < 0) = false := by simpa using a3
            have a4 : 10000 < t := by omega
            go_wp2
            go_ret2
            exact ⟨none, 0, rfl, OwnE.nil, by rw [esz_nil]; omega, hb1⟩
end Go.Proofs.Ytbagliaelolhcaa
