/-
  Contracts and plain laws that the walk uses, several texts in one. The conditions are named ahead of each.
-/
import Derived.Test.YtjhbffndiaggmaaDoorZPair
import Derived.Test.YtjhbffndiaggmaaDoorB26

/-
  Contracts of LineFaults and IsTrueLine, in the reference and in the program. The conditions are bounds on lengths.
-/
namespace Go.Proofs.YtjhbffndiaggmaaDoor
open Go.RowKit Go.ChangeShapes Go.WideShapes
set_option linter.unusedVariables false
set_option linter.unusedSimpArgs false

/-- a goal at which a walk rests -/
def Stop (p : Prop) : Prop := p
theorem Stop.of {p : Prop} (h : Stop p) : p := h
theorem Stop.intro {p : Prop} (h : p) : Stop p := h
theorem itB_no {es : List (List Ent)} (h : logsB es = false) : itB es = false := by simp [itB, h]
theorem itB_yes {es : List (List Ent)} (h : logsB es = true) : itB es = ((((lfL es).length : Nat) : Int) == 0) := by
  cases hL : lfL es with
  | nil => simp [itB, h, hL]
  | cons a l => simp [itB, h, hL]; omega
theorem auGood_w (es : List (List Ent)) (A : Option Addr) (c : Nat) {l h : Nat} (w : World) (hr : RdEE w l h A es) (hl : esszL es ≤ 1048576) (v : Bool) (hv : logsB es = v) :
    Calls Tryd.prog 25 #[.slice A es.length c] w fun e w' => e = .returned (.bool v) ∧ Below w.heap.size w w' := by
  rw [← hv]; exact auGood_any es A c w hr hl
theorem iAreLogs_w (es : List (List Ent)) (A : Option Addr) (c : Nat) {l h : Nat} (w : World) (hr : RdEE w l h A es) (hl : esszL es ≤ 1048576) (v : Bool) (hv : logsB es = v) :
    Calls Tryd.prog 21 #[.slice A es.length c] w fun e w' => e = .returned (.bool v) ∧ Below w.heap.size w w' := by
  rw [← hv]; exact iAreLogs_any es A c w hr hl

set_option maxHeartbeats 8000000 in
theorem auLine_any (es : List (List Ent)) (A : Option Addr) (c : Nat) {l h : Nat} (w : World) (hr0 : RdEE w l h A es) (hl : esszL es ≤ 1048576) (hg : logsB es = true) :
    Calls Tryd.prog 26 #[.slice A es.length c] w fun e w' => ∃ A c, e = .returned (.slice A (lfL es).length c) ∧ OwnI w' w.heap.size w'.heap.size (.slice A (lfL es).length c) (lfL es) ∧ Below w.heap.size w w' := by
  have hr := hr0.std
  clear hr0
  have hel := essz_len es
  have h8 := logsB_len8 hg
  have hgH := Lib.hid hg
  have hallH := Lib.hid (logsB_iff.1 hg).2
  clear hg
  go_enter Tryd.func26, Tryd.ntmps26
  go_wp2
  go_loopw [3, 12] (fun v i wr => ∃ k : Nat, k ≤ es.length ∧ i = .int .i64 k ∧ OwnI wr w.heap.size wr.heap.size v (lfTo es k) ∧ Below w.heap.size w wr) (fun _ i _ => es.length - (intOf i).toNat)
  case atStart => exact ⟨0, Nat.zero_le _, rfl, by rw [lfTo_zero]; exact OwnI.nil, Below.refl _ _⟩
  case round =>
    obtain ⟨k, hk, rfl, hown, hbr⟩ := hrel
    obtain ⟨wo, rfl⟩ : ∃ wo, wo = wr := ⟨_, rfl⟩
    have hszr := hbr.size
    by_cases hlt : k < es.length
    · obtain ⟨b0, off, rfl, _, _, hc⟩ := (hr.st hbr) (by omega)
      obtain ⟨A1, c1, x0, r1, _⟩ := hc k hlt
      have hat := essz_at es k hlt
      have hek := esz_len es[k]
      have hto := lfTo_len hgH.out k
      have hnext : Hid (∀ (h : k + 1 < es.length), ∃ A1 c1, wo.cell? ⟨b0, off + (k + 1), none⟩ = some (.slice A1 es[k + 1].length c1) ∧ RdE wo 0 w.heap.size A1 es[k + 1]) := Lib.hid (fun h => by
        obtain ⟨A1, c1, x, r, _⟩ := hc (k + 1) h
        exact ⟨A1, c1, x, r⟩)
      have hoS : Hid (OwnI wo w.heap.size wo.heap.size _ (lfTo es k ++ lfE es[k] (k : Int) 0)) := Lib.hid (by rw [lfE_zero, List.append_nil]; exact hown)
      have hbS := Lib.hid hbr
      have b0lt : b0 < wo.heap.size := World.block_lt_of_cell? wo _ x0
      clear hown hc hbr
      go_wp2
      go_loopw [3, 19] (fun v i wI => ∃ j : Nat, j ≤ es[k].length ∧ i = .int .i64 j ∧ OwnI wI w.heap.size wI.heap.size v (lfTo es k ++ lfE es[k] (k : Int) j) ∧ Below w.heap.size w wI ∧ Below w.heap.size wo wI) (fun _ i _ => es[k].length - (intOf i).toNat)
      case atStart => exact ⟨0, Nat.zero_le _, rfl, hoS.out, hbS.out, Below.refl _ _⟩
      case round =>
        clear hoS
        obtain ⟨j, hj, rfl, hown, hbr, hbw⟩ := hrel
        obtain ⟨wi, rfl⟩ : ∃ wi, wi = wr := ⟨_, rfl⟩
        have hszr' := hbr.size
        have hto2 := lfE_len es[k] (k : Int) j
        have htl : Hid ((lfTo es k ++ lfE es[k] (k : Int) j).length ≤ 90 * k + j) := Lib.hid (by rw [List.length_append]; omega)
        by_cases hjl : j < es[k].length
        · obtain ⟨b1, off1, rfl, _, _, hc1⟩ := (r1.below hbw (Nat.le_refl _)) (by omega)
          obtain ⟨B1, d1, B2, d2, y0, y1, y2, y3, y4, q1, q2⟩ := hc1 j hjl
          have hate := esz_at es[k] j hjl
          have bk := Bk.new wi 46 #[.int .i64 es[k][j].time, .int .i64 es[k][j].msg, .int .i64 es[k][j].part, .slice B1 es[k][j].seen.length d1, .slice B2 es[k][j].shown.length d2]
          have ho1 := hown.alloc (.cells #[.int .i64 es[k][j].time, .int .i64 es[k][j].msg, .int .i64 es[k][j].part, .slice B1 es[k][j].seen.length d1, .slice B2 es[k][j].shown.length d2] 46)
          have hB1 := hbr.alloc hszr' (.cells #[.int .i64 es[k][j].time, .int .i64 es[k][j].msg, .int .i64 es[k][j].part, .slice B1 es[k][j].seen.length d1, .slice B2 es[k][j].shown.length d2] 46)
          have hw1 := hbw.alloc hszr' (.cells #[.int .i64 es[k][j].time, .int .i64 es[k][j].msg, .int .i64 es[k][j].part, .slice B1 es[k][j].seen.length d1, .slice B2 es[k][j].shown.length d2] 46)
          clear hc1 hown hbr hbw x0
          cases hs : eqL es[k][j].seen es[k][j].shown with
          | true =>
            have hst := Lib.hid (lfE_no (i := (k : Int)) hjl hs)
            go_wp2_with fail
            (with_reducible refine (l1Same_v es[k][j].seen es[k][j].shown B1 B2 d1 d2 _ (q1.alloc _) (q2.alloc _) (by omega) (by omega) _ hs).mono ?_)
            rintro e w2 ⟨rfl, hb2⟩
            have s2 : wi.heap.size + 1 ≤ w2.heap.size := by have := hb2.size; simpa using this
            have hoH := Lib.hid (ho1.st hb2)
            have hBH := Lib.hid (hB1.trans (hb2.mono (by simp; omega)))
            have hWH := Lib.hid (hw1.trans (hb2.mono (by simp; omega)))
            clear ho1 hB1 hw1 hb2 bk
            go_wp2
            go_roundw
            case rel => exact ⟨j + 1, by omega, by go_num, by rw [hst.out]; exact hoH.out.mono (Nat.le_refl _) (by omega), hBH.out, hWH.out⟩
            case measure => simp [intOf]; omega
          | false =>
            have hst := Lib.hid (lfE_yes (i := (k : Int)) hjl hs)
            go_wp2_with fail
            (with_reducible refine (l1Same_v es[k][j].seen es[k][j].shown B1 B2 d1 d2 _ (q1.alloc _) (q2.alloc _) (by omega) (by omega) _ hs).mono ?_)
            rintro e w2 ⟨rfl, hb2⟩
            have s2 : wi.heap.size + 1 ≤ w2.heap.size := by have := hb2.size; simpa using this
            have hoW := ho1.st hb2
            have hBW := hB1.trans (hb2.mono (by simp; omega))
            have hWW := hw1.trans (hb2.mono (by simp; omega))
            have bk2 := bk.st hb2
            have t1 := bk2.cell 1
            have t2 := bk2.cell 2
            simp at t1 t2
            clear ho1 hB1 hw1 hb2 bk
            go_wp2_with (at_builtin; refine wp_append_made rfl (.tmp 29) (.tmp 36) _ _ rfl rfl rfl (by first | rfl | simp | omega) hoW (ys := [es[k][j].msg, es[k][j].part, 5, (k : Int)]) rfl (by omega) (by simp) (by have := htl.out; omega) ?_; intro v3 w3 hown3 hb3 hfull3)
            have hBH := Lib.hid (hBW.trans (hb3.mono (Nat.le_refl _)))
            have hWH := Lib.hid (hWW.trans (hb3.mono (Nat.le_refl _)))
            have hoH := Lib.hid hown3
            clear hown3 hb3 hBW hoW hWW hfull3 t1 t2 bk2
            go_roundw
            case rel => exact ⟨j + 1, by omega, by go_num, by rw [hst.out, ← List.append_assoc]; exact hoH.out, hBH.out, hWH.out⟩
            case measure => simp [intOf]; omega
        · obtain rfl : j = es[k].length := by omega
          by_cases hi2 : k + 1 < es.length
          · obtain ⟨A2, c2, x1, r2⟩ := hnext.out hi2
            have x1' := (hbw.cell (p := ⟨b0, off + (k + 1), none⟩) (by assumption)).trans x1
            have ra := r1.below hbw (Nat.le_refl _)
            have rb := r2.below hbw (Nat.le_refl _)
            have hat2 := essz_at es (k + 1) hi2
            have hpl : Hid ((pfL es[k] es[k + 1]).length ≤ 60) := Lib.hid (by
              have := pfL_len es[k] es[k + 1]; have := logB_len' (hallH.out k hlt); have := logB_len' (hallH.out (k + 1) hi2); omega)
            have hfin := Lib.hid (show lfTo es (k + 1) = lfTo es k ++ lfE es[k] (k : Int) es[k].length ++ lfP (pfL es[k] es[k + 1]) (k : Int) (pfL es[k] es[k + 1]).length by rw [lfTo_succ, lfRow_more hi2, List.append_assoc])
            have hek30 : Hid (es[k].length ≤ 30) := Lib.hid (logB_len' (hallH.out k hlt))
            clear x0 x1 r2
            go_wp2_with fail
            (with_reducible refine (auPair_any es[k] A1 c1 es[k + 1] A2 c2 _ ra rb (by omega) (by omega)).mono ?_)
            rintro e w2 ⟨A3, c3, rfl, ho3, hf3, hb2⟩
            have s2 := hb2.size
            have hoS2 : Hid (OwnI w2 w.heap.size w2.heap.size _ (lfTo es k ++ lfE es[k] (k : Int) es[k].length ++ lfP (pfL es[k] es[k + 1]) (k : Int) 0)) := Lib.hid (by rw [lfP_zero, List.append_nil]; exact (hown.st hb2).mono (Nat.le_refl _) s2)
            have hvS : Hid (∀ b, Value.ownBlock _ = some b → b < wi.heap.size ∨ w2.heap.size ≤ b) := Lib.hid (fun b hb => .inl (hown.lt b hb).2.2)
            have hBS := Lib.hid (hbr.trans (hb2.mono (by omega)))
            have ho3H := Lib.hid ho3
            have hf3H := Lib.hid hf3
            clear hown hbr hbw hb2 ra rb ho3 hf3 x1'
            go_wp2
            go_loopw [3, 52] (fun v i wr2 => ∃ j : Nat, j ≤ (pfL es[k] es[k + 1]).length ∧ i = .int .i64 j ∧ OwnI wr2 w.heap.size wr2.heap.size v (lfTo es k ++ lfE es[k] (k : Int) es[k].length ++ lfP (pfL es[k] es[k + 1]) (k : Int) j) ∧ (∀ b, v.ownBlock = some b → b < wi.heap.size ∨ w2.heap.size ≤ b) ∧ Kp wi.heap.size w2.heap.size w2 wr2 ∧ w2.heap.size ≤ wr2.heap.size ∧ Below w.heap.size w wr2) (fun _ i _ => (pfL es[k] es[k + 1]).length - (intOf i).toNat)
            case atStart => exact ⟨0, Nat.zero_le _, rfl, hoS2.out, hvS.out, Kp.refl _ _ _, Nat.le_refl _, hBS.out⟩
            case round =>
              clear hoS2 hvS hBS
              obtain ⟨j, hj, rfl, hown, hvb, hkp, hge, hbr⟩ := hrel
              by_cases hjl2 : j < (pfL es[k] es[k + 1]).length
              · have ho4 := ho3H.out.keep fun b h1 h2 _ => hkp b h1 h2
                have hf4 := hf3H.out.keep fun b hb h1 h3 => hkp b h1 h3
                obtain ⟨g3, Aj, hg3, cj, rdj⟩ := hf4.at_ ho4 j hjl2
                obtain ⟨b3, off3, e3, _, _, hcc⟩ := ho4.rd' (by omega)
                subst e3
                obtain ⟨rfl, rfl⟩ : b3 = g3 ∧ off3 = 0 := own_addr hf4 hg3
                have hplv := hpl.out
                have h3j := pfL_at hjl2
                have h3a : (pfL es[k] es[k + 1])[j].length ≤ 3 := by omega
                have h3b : 3 ≤ (pfL es[k] es[k + 1])[j].length := by omega
                clear h3j
                have hst := Lib.hid (lfP_succ (i := (k : Int)) hjl2)
                have htl2 : Hid ((lfTo es k ++ lfE es[k] (k : Int) es[k].length ++ lfP (pfL es[k] es[k + 1]) (k : Int) j).length ≤ 2000) := Lib.hid (by
                  rw [List.length_append, List.length_append, lfP_len _ _ _ (by omega)]
                  have := hpl.out; have := hek30.out; omega)
                clear hcc ho4 hf4
                have hbr2 := Lib.hid hbr.size
                go_wp2_with fail
                refine (l1Own_any (pfL es[k] es[k + 1])[j] _ _ _ rdj (by omega)).mono ?_
                rintro e w4 ⟨u0, rfl, ou0, hb4⟩
                obtain ⟨A0, c0, rfl, _, _⟩ := ou0.rd
                have s4 := hb4.size
                go_wp2_with (at_builtin; refine wp_append_ints rfl (.tmp 58) (.tmp 60) rfl rfl (ou0.alloc _) (ys := [(k : Int)]) rfl ((Rd.one w4 _ _ _ rfl).mono (Nat.zero_le _) (by simp)) (by simp; omega) (by simp; omega) ?_; intro v5 w5 ou5 hg5 hb5 hat5; refine Stop.of ?_)
                refine Stop.intro ?_
                obtain ⟨A5, c5, rfl, _, _⟩ := ou5.rd
                have s5 : w4.heap.size + 1 ≤ w5.heap.size := by have := hb5.size; simpa using this
                have hB5 : Below wr.heap.size wr w5 := (hb4.alloc (by omega) _).trans hb5
                have e5 : ((pfL es[k] es[k + 1])[j] ++ [(k : Int)]).length = (pfL es[k] es[k + 1])[j].length + 1 := by simp
                rw [e5] at ou5
                clear e5
                have ho5 := hown.below hB5 (.inl (Nat.le_refl _))
                have hk5 : Kp wi.heap.size w2.heap.size w2 w5 := hkp.trans (Kp.below hB5 hge)
                have hb5' := hbr.trans (hB5.mono (by have := hbr.size; omega))
                have hge5 : w2.heap.size ≤ w5.heap.size := Nat.le_trans hge (Below.size hB5)
                clear hown hkp hbr hB5 rdj cj
                go_wp2_with (at_builtin; refine wp_append_sl rfl (.tmp 56) (.tmp 62) rfl rfl rfl ho5 (ou5.mono (lo' := wr.heap.size) (by first | omega | (simp <;> omega)) (Nat.le_refl _)) (by have := hbr2.out; omega) (by omega) (by have := htl2.out; omega) ?_; intro v6 w6 ho6 hb6 hg6 hat6)
                have hoH := Lib.hid ho6
                have hvH : Hid (∀ b, v6.ownBlock = some b → b < wi.heap.size ∨ w2.heap.size ≤ b) := Lib.hid (fun b hb => by
                  rcases hat6 with e | e
                  · exact hvb b (e.symm.trans hb)
                  · rw [e] at hb; injection hb with hb; omega)
                have hkH := Lib.hid (hk5.trans (Kp.grown hg6 hge5 hvb))
                have hsH : Hid (w2.heap.size ≤ w6.heap.size) := Lib.hid (Nat.le_trans hge5 hg6.size)
                have hBH := Lib.hid (hb5'.trans (hb6.mono (Nat.le_refl _)))
                clear ho6 hb6 hg6 hat6 ho5 hk5 hb5' ou5 hvb
                go_roundw
                case rel => exact ⟨j + 1, by omega, by go_num, by rw [hst.out, ← List.append_assoc]; exact hoH.out, hvH.out, hkH.out, hsH.out, hBH.out⟩
                case measure => simp [intOf]; omega
              · obtain rfl : j = (pfL es[k] es[k + 1]).length := by omega
                rw [← hfin.out] at hown
                have hoH := Lib.hid hown
                have hBH := Lib.hid hbr
                clear hown hbr hvb hkp
                go_wp2
                go_roundw
                case rel => exact ⟨k + 1, by omega, by go_num, hoH.out, hBH.out⟩
                case measure => simp [intOf]; omega
          · have hfin := Lib.hid (show lfTo es (k + 1) = lfTo es k ++ lfE es[k] (k : Int) es[k].length by rw [lfTo_succ, lfRow_last hlt hi2])
            rw [← hfin.out] at hown
            have hk1 : k + 1 = es.length := by omega
            have hlast := Lib.hid (show lfTo es (k + 1) = lfL es by rw [hk1]; rfl)
            rw [hlast.out] at hown
            obtain ⟨A, c, rfl, -, -⟩ := hown.rd
            have ho := Lib.hid hown
            clear hown
            go_wp2
            go_ret
            exact ⟨_, _, rfl, ho.out, hbr⟩
    · obtain rfl : k = es.length := by omega
      obtain ⟨A, c, rfl, -, -⟩ := hown.rd
      have ho := Lib.hid (show OwnI wo w.heap.size wo.heap.size (.slice A (lfL es).length c) (lfL es) from hown)
      clear hown
      go_wp2
      go_ret
      exact ⟨_, _, rfl, ho.out, hbr⟩

set_option maxHeartbeats 8000000 in
theorem lineFaults_any (es : List (List Ent)) (A : Option Addr) (c : Nat) {l h : Nat} (w : World) (hr0 : RdEE w l h A es) (hl : esszL es ≤ 1048576) (hg : logsB es = true) :
    Calls Tryd.prog 24 #[.slice A es.length c] w fun e w' => ∃ A c, e = .returned (.slice A (lfL es).length c) ∧ OwnI w' w.heap.size w'.heap.size (.slice A (lfL es).length c) (lfL es) ∧ Below w.heap.size w w' := by
  have hr := hr0.std
  clear hr0
  have hel := essz_len es
  have h8 := logsB_len8 hg
  have hgH := Lib.hid hg
  have hallH := Lib.hid (logsB_iff.1 hg).2
  clear hg
  go_enter Tryd.func24, Tryd.ntmps24
  go_wp2
  go_loopw [3, 12] (fun v i wr => ∃ k : Nat, k ≤ es.length ∧ i = .int .i64 k ∧ OwnI wr w.heap.size wr.heap.size v (lfTo es k) ∧ Below w.heap.size w wr) (fun _ i _ => es.length - (intOf i).toNat)
  case atStart => exact ⟨0, Nat.zero_le _, rfl, by rw [lfTo_zero]; exact OwnI.nil, Below.refl _ _⟩
  case round =>
    obtain ⟨k, hk, rfl, hown, hbr⟩ := hrel
    obtain ⟨wo, rfl⟩ : ∃ wo, wo = wr := ⟨_, rfl⟩
    have hszr := hbr.size
    by_cases hlt : k < es.length
    · obtain ⟨b0, off, rfl, _, _, hc⟩ := (hr.st hbr) (by omega)
      obtain ⟨A1, c1, x0, r1, _⟩ := hc k hlt
      have hat := essz_at es k hlt
      have hek := esz_len es[k]
      have hto := lfTo_len hgH.out k
      have hnext : Hid (∀ (h : k + 1 < es.length), ∃ A1 c1, wo.cell? ⟨b0, off + (k + 1), none⟩ = some (.slice A1 es[k + 1].length c1) ∧ RdE wo 0 w.heap.size A1 es[k + 1]) := Lib.hid (fun h => by
        obtain ⟨A1, c1, x, r, _⟩ := hc (k + 1) h
        exact ⟨A1, c1, x, r⟩)
      have hoS : Hid (OwnI wo w.heap.size wo.heap.size _ (lfTo es k ++ lfE es[k] (k : Int) 0)) := Lib.hid (by rw [lfE_zero, List.append_nil]; exact hown)
      have hbS := Lib.hid hbr
      have b0lt : b0 < wo.heap.size := World.block_lt_of_cell? wo _ x0
      clear hown hc hbr
      go_wp2
      go_loopw [3, 19] (fun v i wI => ∃ j : Nat, j ≤ es[k].length ∧ i = .int .i64 j ∧ OwnI wI w.heap.size wI.heap.size v (lfTo es k ++ lfE es[k] (k : Int) j) ∧ Below w.heap.size w wI ∧ Below w.heap.size wo wI) (fun _ i _ => es[k].length - (intOf i).toNat)
      case atStart => exact ⟨0, Nat.zero_le _, rfl, hoS.out, hbS.out, Below.refl _ _⟩
      case round =>
        clear hoS
        obtain ⟨j, hj, rfl, hown, hbr, hbw⟩ := hrel
        obtain ⟨wi, rfl⟩ : ∃ wi, wi = wr := ⟨_, rfl⟩
        have hszr' := hbr.size
        have hto2 := lfE_len es[k] (k : Int) j
        have htl : Hid ((lfTo es k ++ lfE es[k] (k : Int) j).length ≤ 90 * k + j) := Lib.hid (by rw [List.length_append]; omega)
        by_cases hjl : j < es[k].length
        · obtain ⟨b1, off1, rfl, _, _, hc1⟩ := (r1.below hbw (Nat.le_refl _)) (by omega)
          obtain ⟨B1, d1, B2, d2, y0, y1, y2, y3, y4, q1, q2⟩ := hc1 j hjl
          have hate := esz_at es[k] j hjl
          have bk := Bk.new wi 46 #[.int .i64 es[k][j].time, .int .i64 es[k][j].msg, .int .i64 es[k][j].part, .slice B1 es[k][j].seen.length d1, .slice B2 es[k][j].shown.length d2]
          have ho1 := hown.alloc (.cells #[.int .i64 es[k][j].time, .int .i64 es[k][j].msg, .int .i64 es[k][j].part, .slice B1 es[k][j].seen.length d1, .slice B2 es[k][j].shown.length d2] 46)
          have hB1 := hbr.alloc hszr' (.cells #[.int .i64 es[k][j].time, .int .i64 es[k][j].msg, .int .i64 es[k][j].part, .slice B1 es[k][j].seen.length d1, .slice B2 es[k][j].shown.length d2] 46)
          have hw1 := hbw.alloc hszr' (.cells #[.int .i64 es[k][j].time, .int .i64 es[k][j].msg, .int .i64 es[k][j].part, .slice B1 es[k][j].seen.length d1, .slice B2 es[k][j].shown.length d2] 46)
          clear hc1 hown hbr hbw x0
          cases hs : eqL es[k][j].seen es[k][j].shown with
          | true =>
            have hst := Lib.hid (lfE_no (i := (k : Int)) hjl hs)
            go_wp2_with fail
            (with_reducible refine (slEqual_v es[k][j].seen es[k][j].shown B1 B2 d1 d2 _ (q1.alloc _) (q2.alloc _) (by omega) (by omega) _ hs).mono ?_)
            rintro e w2 ⟨rfl, hb2⟩
            have s2 : wi.heap.size + 1 ≤ w2.heap.size := by have := hb2.size; simpa using this
            have hoH := Lib.hid (ho1.st hb2)
            have hBH := Lib.hid (hB1.trans (hb2.mono (by simp; omega)))
            have hWH := Lib.hid (hw1.trans (hb2.mono (by simp; omega)))
            clear ho1 hB1 hw1 hb2 bk
            go_wp2
            go_roundw
            case rel => exact ⟨j + 1, by omega, by go_num, by rw [hst.out]; exact hoH.out.mono (Nat.le_refl _) (by omega), hBH.out, hWH.out⟩
            case measure => simp [intOf]; omega
          | false =>
            have hst := Lib.hid (lfE_yes (i := (k : Int)) hjl hs)
            go_wp2_with fail
            (with_reducible refine (slEqual_v es[k][j].seen es[k][j].shown B1 B2 d1 d2 _ (q1.alloc _) (q2.alloc _) (by omega) (by omega) _ hs).mono ?_)
            rintro e w2 ⟨rfl, hb2⟩
            have s2 : wi.heap.size + 1 ≤ w2.heap.size := by have := hb2.size; simpa using this
            have hoW := ho1.st hb2
            have hBW := hB1.trans (hb2.mono (by simp; omega))
            have hWW := hw1.trans (hb2.mono (by simp; omega))
            have bk2 := bk.st hb2
            have t1 := bk2.cell 1
            have t2 := bk2.cell 2
            simp at t1 t2
            clear ho1 hB1 hw1 hb2 bk
            go_wp2_with (at_builtin; refine wp_append_made rfl (.tmp 29) (.tmp 36) _ _ rfl rfl rfl (by first | rfl | simp | omega) hoW (ys := [es[k][j].msg, es[k][j].part, 5, (k : Int)]) rfl (by omega) (by simp) (by have := htl.out; omega) ?_; intro v3 w3 hown3 hb3 hfull3)
            have hBH := Lib.hid (hBW.trans (hb3.mono (Nat.le_refl _)))
            have hWH := Lib.hid (hWW.trans (hb3.mono (Nat.le_refl _)))
            have hoH := Lib.hid hown3
            clear hown3 hb3 hBW hoW hWW hfull3 t1 t2 bk2
            go_roundw
            case rel => exact ⟨j + 1, by omega, by go_num, by rw [hst.out, ← List.append_assoc]; exact hoH.out, hBH.out, hWH.out⟩
            case measure => simp [intOf]; omega
        · obtain rfl : j = es[k].length := by omega
          by_cases hi2 : k + 1 < es.length
          · obtain ⟨A2, c2, x1, r2⟩ := hnext.out hi2
            have x1' := (hbw.cell (p := ⟨b0, off + (k + 1), none⟩) (by assumption)).trans x1
            have ra := r1.below hbw (Nat.le_refl _)
            have rb := r2.below hbw (Nat.le_refl _)
            have hat2 := essz_at es (k + 1) hi2
            have hpl : Hid ((pfL es[k] es[k + 1]).length ≤ 60) := Lib.hid (by
              have := pfL_len es[k] es[k + 1]; have := logB_len' (hallH.out k hlt); have := logB_len' (hallH.out (k + 1) hi2); omega)
            have hfin := Lib.hid (show lfTo es (k + 1) = lfTo es k ++ lfE es[k] (k : Int) es[k].length ++ lfP (pfL es[k] es[k + 1]) (k : Int) (pfL es[k] es[k + 1]).length by rw [lfTo_succ, lfRow_more hi2, List.append_assoc])
            have hek30 : Hid (es[k].length ≤ 30) := Lib.hid (logB_len' (hallH.out k hlt))
            clear x0 x1 r2
            go_wp2_with fail
            (with_reducible refine (pairFaults_any es[k] A1 c1 es[k + 1] A2 c2 _ ra rb (by omega) (by omega)).mono ?_)
            rintro e w2 ⟨A3, c3, rfl, ho3, hf3, hb2⟩
            have s2 := hb2.size
            have hoS2 : Hid (OwnI w2 w.heap.size w2.heap.size _ (lfTo es k ++ lfE es[k] (k : Int) es[k].length ++ lfP (pfL es[k] es[k + 1]) (k : Int) 0)) := Lib.hid (by rw [lfP_zero, List.append_nil]; exact (hown.st hb2).mono (Nat.le_refl _) s2)
            have hvS : Hid (∀ b, Value.ownBlock _ = some b → b < wi.heap.size ∨ w2.heap.size ≤ b) := Lib.hid (fun b hb => .inl (hown.lt b hb).2.2)
            have hBS := Lib.hid (hbr.trans (hb2.mono (by omega)))
            have ho3H := Lib.hid ho3
            have hf3H := Lib.hid hf3
            clear hown hbr hbw hb2 ra rb ho3 hf3 x1'
            go_wp2
            go_loopw [3, 52] (fun v i wr2 => ∃ j : Nat, j ≤ (pfL es[k] es[k + 1]).length ∧ i = .int .i64 j ∧ OwnI wr2 w.heap.size wr2.heap.size v (lfTo es k ++ lfE es[k] (k : Int) es[k].length ++ lfP (pfL es[k] es[k + 1]) (k : Int) j) ∧ (∀ b, v.ownBlock = some b → b < wi.heap.size ∨ w2.heap.size ≤ b) ∧ Kp wi.heap.size w2.heap.size w2 wr2 ∧ w2.heap.size ≤ wr2.heap.size ∧ Below w.heap.size w wr2) (fun _ i _ => (pfL es[k] es[k + 1]).length - (intOf i).toNat)
            case atStart => exact ⟨0, Nat.zero_le _, rfl, hoS2.out, hvS.out, Kp.refl _ _ _, Nat.le_refl _, hBS.out⟩
            case round =>
              clear hoS2 hvS hBS
              obtain ⟨j, hj, rfl, hown, hvb, hkp, hge, hbr⟩ := hrel
              by_cases hjl2 : j < (pfL es[k] es[k + 1]).length
              · have ho4 := ho3H.out.keep fun b h1 h2 _ => hkp b h1 h2
                have hf4 := hf3H.out.keep fun b hb h1 h3 => hkp b h1 h3
                obtain ⟨g3, Aj, hg3, cj, rdj⟩ := hf4.at_ ho4 j hjl2
                obtain ⟨b3, off3, e3, _, _, hcc⟩ := ho4.rd' (by omega)
                subst e3
                obtain ⟨rfl, rfl⟩ : b3 = g3 ∧ off3 = 0 := own_addr hf4 hg3
                have hplv := hpl.out
                have h3j := pfL_at hjl2
                have h3a : (pfL es[k] es[k + 1])[j].length ≤ 3 := by omega
                have h3b : 3 ≤ (pfL es[k] es[k + 1])[j].length := by omega
                clear h3j
                have hst := Lib.hid (lfP_succ (i := (k : Int)) hjl2)
                have htl2 : Hid ((lfTo es k ++ lfE es[k] (k : Int) es[k].length ++ lfP (pfL es[k] es[k + 1]) (k : Int) j).length ≤ 2000) := Lib.hid (by
                  rw [List.length_append, List.length_append, lfP_len _ _ _ (by omega)]
                  have := hpl.out; have := hek30.out; omega)
                clear hcc ho4 hf4
                have hbr2 := Lib.hid hbr.size
                have hpos := rdj (by omega)
                obtain ⟨bj, oj, rfl, _, _, _⟩ := hpos
                go_wp2_with (at_builtin; refine wp_append_full rfl (.tmp 57) (.tmp 59) rfl rfl rfl (zs := [(k : Int)]) ((rdj.std.alloc _).std) ((Rd.one wr _ _ _ rfl).std) (by omega) (by simp) (by simp; omega) ?_; intro A5 c5 w5 ou5 hb5; refine Stop.of ?_)
                refine Stop.intro ?_
                have s5 : wr.heap.size + 1 ≤ w5.heap.size := by have := hb5.size; simpa using this
                have hB5 : Below wr.heap.size wr w5 := ((Below.refl wr.heap.size wr).alloc (Nat.le_refl _) _).trans (hb5.mono (by simp))
                have e5 : ((pfL es[k] es[k + 1])[j] ++ [(k : Int)]).length = (pfL es[k] es[k + 1])[j].length + 1 := by simp
                rw [e5] at ou5
                clear e5
                have ho5 := hown.below hB5 (.inl (Nat.le_refl _))
                have hk5 : Kp wi.heap.size w2.heap.size w2 w5 := hkp.trans (Kp.below hB5 hge)
                have hb5' := hbr.trans (hB5.mono (by have := hbr.size; omega))
                have hge5 : w2.heap.size ≤ w5.heap.size := Nat.le_trans hge (Below.size hB5)
                clear hown hkp hbr hB5 rdj cj
                go_wp2_with (at_builtin; refine wp_append_sl rfl (.tmp 56) (.tmp 61) rfl rfl rfl ho5 (ou5.mono (lo' := wr.heap.size) (by first | omega | (simp <;> omega)) (Nat.le_refl _)) (by have := hbr2.out; omega) (by omega) (by have := htl2.out; omega) ?_; intro v6 w6 ho6 hb6 hg6 hat6)
                have hoH := Lib.hid ho6
                have hvH : Hid (∀ b, v6.ownBlock = some b → b < wi.heap.size ∨ w2.heap.size ≤ b) := Lib.hid (fun b hb => by
                  rcases hat6 with e | e
                  · exact hvb b (e.symm.trans hb)
                  · rw [e] at hb; injection hb with hb; omega)
                have hkH := Lib.hid (hk5.trans (Kp.grown hg6 hge5 hvb))
                have hsH : Hid (w2.heap.size ≤ w6.heap.size) := Lib.hid (Nat.le_trans hge5 hg6.size)
                have hBH := Lib.hid (hb5'.trans (hb6.mono (Nat.le_refl _)))
                clear ho6 hb6 hg6 hat6 ho5 hk5 hb5' ou5 hvb
                go_roundw
                case rel => exact ⟨j + 1, by omega, by go_num, by rw [hst.out, ← List.append_assoc]; exact hoH.out, hvH.out, hkH.out, hsH.out, hBH.out⟩
                case measure => simp [intOf]; omega
              · obtain rfl : j = (pfL es[k] es[k + 1]).length := by omega
                rw [← hfin.out] at hown
                have hoH := Lib.hid hown
                have hBH := Lib.hid hbr
                clear hown hbr hvb hkp
                go_wp2
                go_roundw
                case rel => exact ⟨k + 1, by omega, by go_num, hoH.out, hBH.out⟩
                case measure => simp [intOf]; omega
          · have hfin := Lib.hid (show lfTo es (k + 1) = lfTo es k ++ lfE es[k] (k : Int) es[k].length by rw [lfTo_succ, lfRow_last hlt hi2])
            rw [← hfin.out] at hown
            have hoH := Lib.hid hown
            have hBH := Lib.hid hbr
            clear hown hbr hbw
            go_wp2
            go_roundw
            case rel => exact ⟨k + 1, by omega, by go_num, hoH.out, hBH.out⟩
            case measure => simp [intOf]; omega
    · obtain rfl : k = es.length := by omega
      obtain ⟨A, c, rfl, -, -⟩ := hown.rd
      have ho := Lib.hid (show OwnI wo w.heap.size wo.heap.size (.slice A (lfL es).length c) (lfL es) from hown)
      clear hown
      go_wp2
      go_ret
      exact ⟨_, _, rfl, ho.out, hbr⟩

set_option maxHeartbeats 1000000 in
theorem sLineFaults_any (es : List (List Ent)) (A : Option Addr) (c : Nat) {l h : Nat} (w : World) (hr0 : RdEE w l h A es) (hl : esszL es ≤ 1048576) :
    Calls Tryd.prog 6 #[.slice A es.length c] w fun e w' => ∃ A c, e = .returned (.tuple #[.slice A (llL es).length c, .bool (logsB es)]) ∧ RdI w' 0 w'.heap.size A (llL es) ∧ iszL (llL es) ≤ 1048576 ∧ Below w.heap.size w w' := by
  have hr := hr0.std
  clear hr0
  cases q1 : logsB es with
  | false =>
    rw [llL_no q1]
    go_enter Tryd.func6, Tryd.ntmps6
    go_wp2_with (go_at_call 25; (with_reducible refine (auGood_w es A c _ hr hl _ q1).mono ?_); rintro e w1 ⟨rfl, hb1⟩)
    go_ret2
    (first | exact ⟨none, 0, rfl, RdI.nil, by rw [isz_nil]; omega, hb1⟩ | exact ⟨none, 0, rfl, RdI.nil, hb1⟩)
  | true =>
    rw [llL_yes q1]
    have hsz := Lib.hid (lfL_sz q1)
    go_enter Tryd.func6, Tryd.ntmps6
    go_wp2_with fail
    (with_reducible refine (auGood_w es A c _ hr hl _ q1).mono ?_)
    rintro e w1 ⟨rfl, hb1⟩
    have sz := hb1.size
    go_wp2_with fail
    (with_reducible refine (auLine_any es A c _ (hr.st hb1) hl q1).mono ?_)
    rintro e w3 ⟨A3, c3, rfl, ho3, hb3⟩
    have hB := hb1.trans (hb3.mono sz)
    clear hb3
    go_wp2
    go_ret2
    exact ⟨_, _, rfl, ho3.rd'.std, by have := hsz.out; omega, hB⟩

set_option maxHeartbeats 1000000 in
theorem sIsTrueLine_any (es : List (List Ent)) (A : Option Addr) (c : Nat) {l h : Nat} (w : World) (hr0 : RdEE w l h A es) (hl : esszL es ≤ 1048576) :
    Calls Tryd.prog 12 #[.slice A es.length c] w fun e w' => e = .returned (.tuple #[.bool (itB es), .bool (logsB es)]) ∧ Below w.heap.size w w' := by
  have hr := hr0.std
  clear hr0
  cases q1 : logsB es with
  | false =>
    rw [itB_no q1]
    go_enter Tryd.func12, Tryd.ntmps12
    go_wp2_with (go_at_call 25; (with_reducible refine (auGood_w es A c _ hr hl _ q1).mono ?_); rintro e w1 ⟨rfl, hb1⟩)
    go_ret2
    exact ⟨rfl, hb1⟩
  | true =>
    have hv := Lib.hid (itB_yes q1)
    have hln := lfL_len q1
    by_cases h0 : (lfL es).length = 0
    · have hv2 : Hid (itB es = true) := Lib.hid (by rw [hv.out, h0]; rfl)
      go_enter Tryd.func12, Tryd.ntmps12
      go_wp2_with fail
      (with_reducible refine (auGood_w es A c _ hr hl _ q1).mono ?_)
      rintro e w1 ⟨rfl, hb1⟩
      have sz := hb1.size
      go_wp2_with fail
      (with_reducible refine (auLine_any es A c _ (hr.st hb1) hl q1).mono ?_)
      rintro e w3 ⟨A3, c3, rfl, ho3, hb3⟩
      have hB := hb1.trans (hb3.mono sz)
      clear hb3
      go_wp2
      go_ret2
      exact ⟨by rw [hv2.out]; simp [h0], hB⟩
    · have hv2 : Hid (itB es = false) := Lib.hid (by rw [hv.out]; simp; intro h; exact h0 (by rw [h]; rfl))
      go_enter Tryd.func12, Tryd.ntmps12
      go_wp2_with fail
      (with_reducible refine (auGood_w es A c _ hr hl _ q1).mono ?_)
      rintro e w1 ⟨rfl, hb1⟩
      have sz := hb1.size
      go_wp2_with fail
      (with_reducible refine (auLine_any es A c _ (hr.st hb1) hl q1).mono ?_)
      rintro e w3 ⟨A3, c3, rfl, ho3, hb3⟩
      have hB := hb1.trans (hb3.mono sz)
      clear hb3
      go_wp2
      go_ret2
      exact ⟨by rw [hv2.out]; simp; intro h; exact h0 (by rw [h]; rfl), hB⟩

set_option maxHeartbeats 1000000 in
theorem iLineFaults_any (es : List (List Ent)) (A : Option Addr) (c : Nat) {l h : Nat} (w : World) (hr0 : RdEE w l h A es) (hl : esszL es ≤ 1048576) :
    Calls Tryd.prog 5 #[.slice A es.length c] w fun e w' => ∃ A c, e = .returned (.tuple #[.slice A (llL es).length c, .bool (logsB es)]) ∧ OwnI w' w.heap.size w'.heap.size (.slice A (llL es).length c) (llL es) ∧ iszL (llL es) ≤ 1048576 ∧ Below w.heap.size w w' := by
  have hr := hr0.std
  clear hr0
  cases q1 : logsB es with
  | false =>
    rw [llL_no q1]
    go_enter Tryd.func5, Tryd.ntmps5
    go_wp2_with (go_at_call 21; (with_reducible refine (iAreLogs_w es A c _ hr hl _ q1).mono ?_); rintro e w1 ⟨rfl, hb1⟩)
    go_ret2
    (first | exact ⟨none, 0, rfl, OwnI.nil, by rw [isz_nil]; omega, hb1⟩ | exact ⟨none, 0, rfl, OwnI.nil, hb1⟩)
  | true =>
    rw [llL_yes q1]
    have hsz := Lib.hid (lfL_sz q1)
    go_enter Tryd.func5, Tryd.ntmps5
    go_wp2_with fail
    (with_reducible refine (iAreLogs_w es A c _ hr hl _ q1).mono ?_)
    rintro e w1 ⟨rfl, hb1⟩
    have sz := hb1.size
    go_wp2_with fail
    (with_reducible refine (lineFaults_any es A c _ (hr.st hb1) hl q1).mono ?_)
    rintro e w3 ⟨A3, c3, rfl, ho3, hb3⟩
    have hB := hb1.trans (hb3.mono sz)
    clear hb3
    go_wp2
    go_ret2
    exact ⟨_, _, rfl, ho3.mono (by omega) (Nat.le_refl _), by have := hsz.out; omega, hB⟩

set_option maxHeartbeats 1000000 in
theorem iIsTrueLine_any (es : List (List Ent)) (A : Option Addr) (c : Nat) {l h : Nat} (w : World) (hr0 : RdEE w l h A es) (hl : esszL es ≤ 1048576) :
    Calls Tryd.prog 11 #[.slice A es.length c] w fun e w' => e = .returned (.tuple #[.bool (itB es), .bool (logsB es)]) ∧ Below w.heap.size w w' := by
  have hr := hr0.std
  clear hr0
  cases q1 : logsB es with
  | false =>
    rw [itB_no q1]
    go_enter Tryd.func11, Tryd.ntmps11
    go_wp2_with (go_at_call 21; (with_reducible refine (iAreLogs_w es A c _ hr hl _ q1).mono ?_); rintro e w1 ⟨rfl, hb1⟩)
    go_ret2
    exact ⟨rfl, hb1⟩
  | true =>
    have hv := Lib.hid (itB_yes q1)
    have hln := lfL_len q1
    by_cases h0 : (lfL es).length = 0
    · have hv2 : Hid (itB es = true) := Lib.hid (by rw [hv.out, h0]; rfl)
      go_enter Tryd.func11, Tryd.ntmps11
      go_wp2_with fail
      (with_reducible refine (iAreLogs_w es A c _ hr hl _ q1).mono ?_)
      rintro e w1 ⟨rfl, hb1⟩
      have sz := hb1.size
      go_wp2_with fail
      (with_reducible refine (lineFaults_any es A c _ (hr.st hb1) hl q1).mono ?_)
      rintro e w3 ⟨A3, c3, rfl, ho3, hb3⟩
      have hB := hb1.trans (hb3.mono sz)
      clear hb3
      go_wp2
      go_ret2
      exact ⟨by rw [hv2.out]; simp [h0], hB⟩
    · have hv2 : Hid (itB es = false) := Lib.hid (by rw [hv.out]; simp; intro h; exact h0 (by rw [h]; rfl))
      go_enter Tryd.func11, Tryd.ntmps11
      go_wp2_with fail
      (with_reducible refine (iAreLogs_w es A c _ hr hl _ q1).mono ?_)
      rintro e w1 ⟨rfl, hb1⟩
      have sz := hb1.size
      go_wp2_with fail
      (with_reducible refine (lineFaults_any es A c _ (hr.st hb1) hl q1).mono ?_)
      rintro e w3 ⟨A3, c3, rfl, ho3, hb3⟩
      have hB := hb1.trans (hb3.mono sz)
      clear hb3
      go_wp2
      go_ret2
      exact ⟨by rw [hv2.out]; simp; intro h; exact h0 (by rw [h]; rfl), hB⟩
end Go.Proofs.YtjhbffndiaggmaaDoor

/-
  Contracts of FaultCounts, FirstFault and MostSuspect, in the reference and in the program. The conditions are bounds on lengths.
-/
namespace Go.Proofs.YtjhbffndiaggmaaDoor
open Go.RowKit Go.ChangeShapes Go.WideShapes
set_option linter.unusedVariables false
set_option linter.unusedSimpArgs false

def fcM (es : List (List Ent)) : List Int := fcTo (lfL es) es.length (lfL es).length
theorem fcM_len (es : List (List Ent)) : (fcM es).length = es.length := fcTo_len _ _ _
theorem fcM_nn (es : List (List Ent)) : ∀ k (_ : k < (fcM es).length), 0 ≤ (fcM es)[k] := fun k hk => (fcTo_bd _ _ _ _ hk).1
theorem ret_iib {a b a' b' : Int} {c c' : Bool} (h1 : a = a') (h2 : b = b') (h3 : c = c') : Ending.returned (.tuple #[.int .i64 a, .int .i64 b, .bool c]) = .returned (.tuple #[.int .i64 a', .int .i64 b', .bool c']) := by rw [h1, h2, h3]

set_option maxHeartbeats 2000000 in
theorem auCounts_any (es : List (List Ent)) (A : Option Addr) (c : Nat) {l h : Nat} (w : World) (hr0 : RdEE w l h A es) (hl : esszL es ≤ 1048576) (hg : logsB es = true) :
    Calls Tryd.prog 28 #[.slice A es.length c] w fun e w' => ∃ A c, e = .returned (.slice A (fcM es).length c) ∧ Own w' w.heap.size w'.heap.size (.slice A (fcM es).length c) (fcM es) ∧ Below w.heap.size w w' := by
  have hr := hr0.std
  clear hr0
  have hel := essz_len es
  have hll := lfL_len hg
  have hlenH := Lib.hid (fcM_len es)
  have hlr : ((lfL es).length : Int) ≤ 720 := by omega
  go_enter Tryd.func28, Tryd.ntmps28
  go_wp2_with (at_make; refine wp_make_ints rfl _ _ rfl es.length rfl rfl (by omega) ?_; intro w1 hown1 hb1 hs1)
  have hgeq : w.heap.size ≤ w1.heap.size := by omega
  refine (auLine_any es A c _ (hr.st hb1) hl hg).mono ?_
  rintro e w2 ⟨A3, c3, rfl, ho3, hb2⟩
  have ho1 : Hid (Own w2 w.heap.size (w.heap.size + 1) (.slice (some ⟨w.heap.size, 0, none⟩) es.length es.length) (fcTo (lfL es) es.length 0)) := by
    show Own _ _ _ _ _
    rw [fcTo_zero]
    exact (hown1.mono (Nat.le_refl _) (by omega)).st hb2
  have hrd : RdI w2 (w.heap.size + 1) w2.heap.size A3 (lfL es) := ho3.rd'.mono (by omega) (Nat.le_refl _)
  have hB2 := hb1.trans (hb2.mono hgeq)
  have hs2 : w.heap.size + 1 ≤ w2.heap.size := by have := hb2.size; omega
  clear hown1 hs1 hb2 hb1 ho3
  go_wp2
  go_loopw [12] (fun i wr => ∃ k : Nat, k ≤ (lfL es).length ∧ i = .int .i64 k ∧ Own wr w.heap.size (w.heap.size + 1) (.slice (some ⟨w.heap.size, 0, none⟩) es.length es.length) (fcTo (lfL es) es.length k) ∧ Fr w.heap.size (w.heap.size + 1) w2 wr ∧ wr.heap.size = w2.heap.size) (fun i _ => (lfL es).length - (intOf i).toNat)
  case atStart => exact ⟨0, Nat.zero_le _, rfl, ho1.out, Fr.refl _ _ _, rfl⟩
  case round =>
    clear ho1
    obtain ⟨k, hk, rfl, hown, hfr, hsr⟩ := hrel
    by_cases hlt : k < (lfL es).length
    · obtain ⟨b, off, rfl, _, _, hc⟩ := (hrd.fr hfr (.inr (Nat.le_refl _))) (by omega)
      obtain ⟨A4, c4, x0, r4⟩ := hc k hlt
      obtain ⟨m0, p0, q0, i0, heq, hi0⟩ := lfL_at hlt
      rw [heq] at x0 r4
      obtain ⟨b4, off4, rfl, _, _, hc4⟩ := r4 (by simp)
      have x3 := hc4 3 (by simp)
      simp at x3 x0
      have hci : i0 < (fcTo (lfL es) es.length k).length := by rw [fcTo_len]; exact hi0
      have hst := Lib.hid (fcTo_succ hlt hi0 (by rw [heq]; rfl) hci)
      have hbd := fcTo_bd (lfL es) es.length k i0 hci
      obtain ⟨g, c', he, _, _, g3, hcell, hfz⟩ := hown.at_ (by rw [fcTo_len]; omega)
      injection he with e1 e2 e3
      injection e1 with e1
      injection e1 with e1 e4
      subst e1
      have hf := hfz i0
      have hcd := hcell i0 hci
      generalize hcv : (fcTo (lfL es) es.length k)[i0] = cv at *
      have hst2 := Lib.hid (hown.stored (j := i0) (cv + 1))
      have hfr2 := Lib.hid (hfr.setCell (p := ⟨w.heap.size, i0, none⟩) ⟨Nat.le_refl _, Nat.lt_succ_self _⟩ (.int .i64 (cv + 1)))
      have hsH := Lib.hid hsr
      clear hcell hfz e2 e3 e4 hown hfr hc hc4 r4 heq hcv hci hsr
      go_wp2
      go_roundw
      case rel => exact ⟨k + 1, by omega, by go_num, by rw [← hst.out]; exact hst2.out, hfr2.out, by rw [size_setCell]; exact hsH.out⟩
      case measure => simp [intOf]; omega
    · obtain rfl : k = (lfL es).length := by omega
      have ho : Hid (Own wr w.heap.size wr.heap.size (.slice (some ⟨w.heap.size, 0, none⟩) (fcM es).length es.length) (fcM es)) := Lib.hid (by rw [hlenH.out]; exact hown.mono (Nat.le_refl _) (by omega))
      have hB := Lib.hid (hB2.trans (hfr.below (Nat.le_refl _) (by omega)))
      clear hown hfr
      go_wp2
      go_ret
      exact ⟨_, _, by rw [hlenH.out]; rfl, ho.out, hB.out⟩

set_option maxHeartbeats 2000000 in
theorem faultCounts_any (es : List (List Ent)) (A : Option Addr) (c : Nat) {l h : Nat} (w : World) (hr0 : RdEE w l h A es) (hl : esszL es ≤ 1048576) (hg : logsB es = true) :
    Calls Tryd.prog 27 #[.slice A es.length c] w fun e w' => ∃ A c, e = .returned (.slice A (fcM es).length c) ∧ Own w' w.heap.size w'.heap.size (.slice A (fcM es).length c) (fcM es) ∧ Below w.heap.size w w' := by
  have hr := hr0.std
  clear hr0
  have hel := essz_len es
  have hll := lfL_len hg
  have hlenH := Lib.hid (fcM_len es)
  have hlr : ((lfL es).length : Int) ≤ 720 := by omega
  go_enter Tryd.func27, Tryd.ntmps27
  go_wp2_with (at_make; refine wp_make_ints rfl _ _ rfl es.length rfl rfl (by omega) ?_; intro w1 hown1 hb1 hs1)
  have hgeq : w.heap.size ≤ w1.heap.size := by omega
  refine (lineFaults_any es A c _ (hr.st hb1) hl hg).mono ?_
  rintro e w2 ⟨A3, c3, rfl, ho3, hb2⟩
  have ho1 : Hid (Own w2 w.heap.size (w.heap.size + 1) (.slice (some ⟨w.heap.size, 0, none⟩) es.length es.length) (fcTo (lfL es) es.length 0)) := by
    show Own _ _ _ _ _
    rw [fcTo_zero]
    exact (hown1.mono (Nat.le_refl _) (by omega)).st hb2
  have hrd : RdI w2 (w.heap.size + 1) w2.heap.size A3 (lfL es) := ho3.rd'.mono (by omega) (Nat.le_refl _)
  have hB2 := hb1.trans (hb2.mono hgeq)
  have hs2 : w.heap.size + 1 ≤ w2.heap.size := by have := hb2.size; omega
  clear hown1 hs1 hb2 hb1 ho3
  go_wp2
  go_loopw [12] (fun i wr => ∃ k : Nat, k ≤ (lfL es).length ∧ i = .int .i64 k ∧ Own wr w.heap.size (w.heap.size + 1) (.slice (some ⟨w.heap.size, 0, none⟩) es.length es.length) (fcTo (lfL es) es.length k) ∧ Fr w.heap.size (w.heap.size + 1) w2 wr ∧ wr.heap.size = w2.heap.size) (fun i _ => (lfL es).length - (intOf i).toNat)
  case atStart => exact ⟨0, Nat.zero_le _, rfl, ho1.out, Fr.refl _ _ _, rfl⟩
  case round =>
    clear ho1
    obtain ⟨k, hk, rfl, hown, hfr, hsr⟩ := hrel
    by_cases hlt : k < (lfL es).length
    · obtain ⟨b, off, rfl, _, _, hc⟩ := (hrd.fr hfr (.inr (Nat.le_refl _))) (by omega)
      obtain ⟨A4, c4, x0, r4⟩ := hc k hlt
      obtain ⟨m0, p0, q0, i0, heq, hi0⟩ := lfL_at hlt
      rw [heq] at x0 r4
      obtain ⟨b4, off4, rfl, _, _, hc4⟩ := r4 (by simp)
      have x3 := hc4 3 (by simp)
      simp at x3 x0
      have hci : i0 < (fcTo (lfL es) es.length k).length := by rw [fcTo_len]; exact hi0
      have hst := Lib.hid (fcTo_succ hlt hi0 (by rw [heq]; rfl) hci)
      have hbd := fcTo_bd (lfL es) es.length k i0 hci
      obtain ⟨g, c', he, _, _, g3, hcell, hfz⟩ := hown.at_ (by rw [fcTo_len]; omega)
      injection he with e1 e2 e3
      injection e1 with e1
      injection e1 with e1 e4
      subst e1
      have hf := hfz i0
      have hcd := hcell i0 hci
      generalize hcv : (fcTo (lfL es) es.length k)[i0] = cv at *
      have hst2 := Lib.hid (hown.stored (j := i0) (cv + 1))
      have hfr2 := Lib.hid (hfr.setCell (p := ⟨w.heap.size, i0, none⟩) ⟨Nat.le_refl _, Nat.lt_succ_self _⟩ (.int .i64 (cv + 1)))
      have hsH := Lib.hid hsr
      clear hcell hfz e2 e3 e4 hown hfr hc hc4 r4 heq hcv hci hsr
      go_wp2
      go_roundw
      case rel => exact ⟨k + 1, by omega, by go_num, by rw [← hst.out]; exact hst2.out, hfr2.out, by rw [size_setCell]; exact hsH.out⟩
      case measure => simp [intOf]; omega
    · obtain rfl : k = (lfL es).length := by omega
      have ho : Hid (Own wr w.heap.size wr.heap.size (.slice (some ⟨w.heap.size, 0, none⟩) (fcM es).length es.length) (fcM es)) := Lib.hid (by rw [hlenH.out]; exact hown.mono (Nat.le_refl _) (by omega))
      have hB := Lib.hid (hB2.trans (hfr.below (Nat.le_refl _) (by omega)))
      clear hown hfr
      go_wp2
      go_ret
      exact ⟨_, _, by rw [hlenH.out]; rfl, ho.out, hB.out⟩

set_option maxHeartbeats 1000000 in
theorem sFaultCounts_any (es : List (List Ent)) (A : Option Addr) (c : Nat) {l h : Nat} (w : World) (hr0 : RdEE w l h A es) (hl : esszL es ≤ 1048576) :
    Calls Tryd.prog 8 #[.slice A es.length c] w fun e w' => ∃ A c, e = .returned (.tuple #[.slice A (fcL es).length c, .bool (logsB es)]) ∧ Rd w' 0 w'.heap.size A (fcL es) ∧ (fcL es).length ≤ 1048576 ∧ Below w.heap.size w w' := by
  have hr := hr0.std
  clear hr0
  have hel := essz_len es
  cases q1 : logsB es with
  | false =>
    rw [fcL_no q1]
    go_enter Tryd.func8, Tryd.ntmps8
    go_wp2_with (go_at_call 25; (with_reducible refine (auGood_w es A c _ hr hl _ q1).mono ?_); rintro e w1 ⟨rfl, hb1⟩)
    go_ret2
    (first | exact ⟨none, 0, rfl, Rd.nil, by simp, hb1⟩ | exact ⟨none, 0, rfl, Rd.nil, hb1⟩)
  | true =>
    rw [show fcL es = fcM es from fcL_yes q1]
    have hlenH := Lib.hid (fcM_len es)
    go_enter Tryd.func8, Tryd.ntmps8
    go_wp2_with fail
    (with_reducible refine (auGood_w es A c _ hr hl _ q1).mono ?_)
    rintro e w1 ⟨rfl, hb1⟩
    have sz := hb1.size
    go_wp2_with fail
    (with_reducible refine (auCounts_any es A c _ (hr.st hb1) hl q1).mono ?_)
    rintro e w3 ⟨A3, c3, rfl, ho3, hb3⟩
    have hB := hb1.trans (hb3.mono sz)
    clear hb3
    go_wp2
    go_ret2
    exact ⟨_, _, rfl, ho3.rd'.std, by rw [hlenH.out]; omega, hB⟩

set_option maxHeartbeats 1000000 in
theorem iFaultCounts_any (es : List (List Ent)) (A : Option Addr) (c : Nat) {l h : Nat} (w : World) (hr0 : RdEE w l h A es) (hl : esszL es ≤ 1048576) :
    Calls Tryd.prog 7 #[.slice A es.length c] w fun e w' => ∃ A c, e = .returned (.tuple #[.slice A (fcL es).length c, .bool (logsB es)]) ∧ Own w' w.heap.size w'.heap.size (.slice A (fcL es).length c) (fcL es) ∧ (fcL es).length ≤ 1048576 ∧ Below w.heap.size w w' := by
  have hr := hr0.std
  clear hr0
  have hel := essz_len es
  cases q1 : logsB es with
  | false =>
    rw [fcL_no q1]
    go_enter Tryd.func7, Tryd.ntmps7
    go_wp2_with (go_at_call 21; (with_reducible refine (iAreLogs_w es A c _ hr hl _ q1).mono ?_); rintro e w1 ⟨rfl, hb1⟩)
    go_ret2
    (first | exact ⟨none, 0, rfl, Own.nil, by simp, hb1⟩ | exact ⟨none, 0, rfl, Own.nil, hb1⟩)
  | true =>
    rw [show fcL es = fcM es from fcL_yes q1]
    have hlenH := Lib.hid (fcM_len es)
    go_enter Tryd.func7, Tryd.ntmps7
    go_wp2_with fail
    (with_reducible refine (iAreLogs_w es A c _ hr hl _ q1).mono ?_)
    rintro e w1 ⟨rfl, hb1⟩
    have sz := hb1.size
    go_wp2_with fail
    (with_reducible refine (faultCounts_any es A c _ (hr.st hb1) hl q1).mono ?_)
    rintro e w3 ⟨A3, c3, rfl, ho3, hb3⟩
    have hB := hb1.trans (hb3.mono sz)
    clear hb3
    go_wp2
    go_ret2
    exact ⟨_, _, rfl, ho3.mono (by omega) (Nat.le_refl _), by rw [hlenH.out]; omega, hB⟩



set_option maxHeartbeats 1000000 in
theorem Max_any (cs : List Int) (A : Option Addr) (c : Nat) {l h : Nat} (w : World) (hr : Rd w l h A cs) (hl : cs.length ≤ 1048576) (h0 : 0 < cs.length) (hn : ∀ k (_ : k < cs.length), 0 ≤ cs[k]) (v : Int) (hv : mxL cs = v) :
    Calls Tryd.prog 29 #[.slice A cs.length c] w fun e w' => e = .returned (.int .i64 v) ∧ w = w' := by
  subst hv
  obtain ⟨b, off, rfl, _, _, hc⟩ := hr h0
  have x0 := hc 0 h0
  simp at x0
  have hcH := Lib.hid hc
  clear hc
  go_enter Tryd.func29, Tryd.ntmps29
  go_wp2
  go_loop [3, 4] (fun q i => ∃ (k : Nat) (M : Int), 1 ≤ k ∧ k ≤ cs.length ∧ i = .int .i64 k ∧ q = .int .i64 M ∧ (∀ j (h : j < cs.length), j < k → cs[j] ≤ M) ∧ (∃ j, ∃ h : j < cs.length, j < k ∧ cs[j] = M)) (fun _ i => cs.length - (intOf i).toNat)
  case atStart => exact ⟨1, cs[0], Nat.le_refl _, h0, rfl, rfl, fun j h hj => by
    obtain rfl : j = 0 := by omega
    exact Int.le_refl _, 0, h0, by omega, rfl⟩
  case round =>
    obtain ⟨k, M, hk1, hk, rfl, rfl, hall, j0, hj0, hjk, hjM⟩ := hrel
    have hallH := Lib.hid hall
    have hjH := Lib.hid hjM
    clear hall hjM
    by_cases hlt : k < cs.length
    · have x1 := hcH.out k hlt
      by_cases hm : M ≤ cs[k]
      · go_wp2
        go_round
        case rel => exact ⟨k + 1, cs[k], by omega, by omega, by go_num, by simp; (try omega), fun j h hj => by
          by_cases e : j = k
          · subst e; exact Int.le_refl _
          · exact Int.le_trans (hallH.out j h (by omega)) hm, k, hlt, by omega, rfl⟩
        case measure => simp [intOf]; omega
      · go_wp2
        go_round
        case rel => exact ⟨k + 1, M, by omega, by omega, by go_num, by simp; (try omega), fun j h hj => by
          by_cases e : j = k
          · subst e; omega
          · exact hallH.out j h (by omega), j0, hj0, by omega, hjH.out⟩
        case measure => simp [intOf]; omega
    · have hM0 : 0 ≤ M := by have := hn j0 hj0; rw [hjH.out] at this; exact this
      have hq := Lib.hid (mxL_eq (cs := cs) (fun j h => hallH.out j h (by omega)) hM0 (.inr ⟨j0, hj0, hjH.out⟩))
      go_wp2
      go_ret
      exact ⟨by rw [hq.out]; rfl, rfl⟩
set_option maxHeartbeats 2000000 in
theorem sMostSuspect_any (es : List (List Ent)) (A : Option Addr) (c : Nat) {l h : Nat} (w : World) (hr0 : RdEE w l h A es) (hl : esszL es ≤ 1048576) :
    Calls Tryd.prog 10 #[.slice A es.length c] w fun e w' => e = .returned (.tuple #[.int .i64 (msI es), .int .i64 (msM es), .bool (msB es)]) ∧ Below w.heap.size w w' := by
  have hr := hr0.std
  clear hr0
  cases q : logsB es with
  | false =>
    have hv := Lib.hid (ms_bad q)
    go_enter Tryd.func10, Tryd.ntmps10
    go_wp2_with (go_at_call 25; (with_reducible refine (auGood_w es A c _ hr hl _ q).mono ?_); rintro e w1 ⟨rfl, hb1⟩)
    go_ret3
    exact ⟨ret_iib hv.out.2.1.symm hv.out.1.symm hv.out.2.2.symm, hb1⟩
  | true =>
    have hel := essz_len es
    have hlenH := Lib.hid (fcM_len es)
    have hle : (fcM es).length ≤ 1048576 := by rw [fcM_len]; omega
    have hnn := Lib.hid (fcM_nn es)
    go_enter Tryd.func10, Tryd.ntmps10
    go_wp2_with fail
    (with_reducible refine (auGood_w es A c _ hr hl _ q).mono ?_)
    rintro e w1 ⟨rfl, hb1⟩
    have sz := hb1.size
    go_wp2_with fail
    (with_reducible refine (auCounts_any es A c _ (hr.st hb1) hl q).mono ?_)
    rintro e w2 ⟨A3, c3, rfl, ho3, hb2⟩
    have hrd := ho3.rd'.std
    have hB2 := hb1.trans (hb2.mono sz)
    clear hb2 ho3
    go_wp2
    go_loop [5, 6, 15] (fun bb mm i => ∃ (k : Nat) (B M : Int), k ≤ (fcM es).length ∧ i = .int .i64 k ∧ bb = .int .i64 B ∧ mm = .int .i64 M ∧ 0 ≤ M ∧ (∀ j (h : j < (fcM es).length), j < k → (fcM es)[j] ≤ M) ∧
      ((M = 0 ∧ B = 0) ∨ (0 < M ∧ ∃ j : Nat, ∃ h : j < (fcM es).length, B = (j : Int) ∧ (fcM es)[j] = M ∧ ∀ i (h2 : i < (fcM es).length), i < j → (fcM es)[i] ≠ M))) (fun _ _ i => (fcM es).length - (intOf i).toNat)
    case atStart => exact ⟨0, 0, 0, Nat.zero_le _, rfl, rfl, rfl, by omega, fun j h hj => absurd hj (by omega), .inl ⟨rfl, rfl⟩⟩
    case round =>
      obtain ⟨k, B, M, hk, rfl, rfl, rfl, hM, hall, hor⟩ := hrel
      have hallH := Lib.hid hall
      have horH := Lib.hid hor
      clear hall hor
      by_cases hlt : k < (fcM es).length
      · obtain ⟨b, off, rfl, _, _, hc⟩ := hrd (by omega)
        have x1 := hc k hlt
        clear hc
        by_cases hm : M < (fcM es)[k]
        · go_wp2
          go_round
          case rel => exact ⟨k + 1, k, (fcM es)[k], by omega, by go_num, rfl, rfl, by omega, fun j h hj => by
            by_cases e : j = k
            · subst e; exact Int.le_refl _
            · have := hallH.out j h (by omega); omega, .inr ⟨by omega, k, hlt, rfl, rfl, fun i h2 h3 => by have := hallH.out i h2 (by omega); omega⟩⟩
          case measure => simp [intOf]; omega
        · go_wp2
          go_round
          case rel => exact ⟨k + 1, B, M, by omega, by go_num, rfl, rfl, hM, fun j h hj => by
            by_cases e : j = k
            · subst e; omega
            · exact hallH.out j h (by omega), horH.out⟩
          case measure => simp [intOf]; omega
      · have hmx : mxL (fcM es) = M := mxL_eq (fun j h => hallH.out j h (by omega)) hM (by
          rcases horH.out with ⟨h, _⟩ | ⟨_, j, h, _, h2, _⟩
          · exact .inl h
          · exact .inr ⟨j, h, h2⟩)
        have hat := ms_at q hmx
        have hv1 := Lib.hid hat.1
        have hv2 := Lib.hid hat.2
        have hv3 : Hid (msI es = B) := Lib.hid (by
          rcases horH.out with ⟨h, h'⟩ | ⟨h0, j, h, h1, h2, h3⟩
          · rw [h']; exact ms_zero (hat.1.trans h)
          · rw [h1]; exact ms_idx hat.1 h0 (idxI_at h h2 h3))
        clear hat hmx
        by_cases hm0 : 0 < M
        · have hv4 : Hid (msB es = true) := Lib.hid (by rw [hv2.out]; simp; exact hm0)
          go_wp2
          go_ret3
          exact ⟨ret_iib hv3.out.symm hv1.out.symm hv4.out.symm, hB2⟩
        · have hv4 : Hid (msB es = false) := Lib.hid (by rw [hv2.out]; simp; omega)
          go_wp2
          go_ret3
          exact ⟨ret_iib hv3.out.symm hv1.out.symm hv4.out.symm, hB2⟩
set_option maxHeartbeats 2000000 in
theorem iMostSuspect_any (es : List (List Ent)) (A : Option Addr) (c : Nat) {l h : Nat} (w : World) (hr0 : RdEE w l h A es) (hl : esszL es ≤ 1048576) :
    Calls Tryd.prog 9 #[.slice A es.length c] w fun e w' => e = .returned (.tuple #[.int .i64 (msI es), .int .i64 (msM es), .bool (msB es)]) ∧ Below w.heap.size w w' := by
  have hr := hr0.std
  clear hr0
  cases q : logsB es with
  | false =>
    have hv := Lib.hid (ms_bad q)
    go_enter Tryd.func9, Tryd.ntmps9
    go_wp2_with (go_at_call 21; (with_reducible refine (iAreLogs_w es A c _ hr hl _ q).mono ?_); rintro e w1 ⟨rfl, hb1⟩)
    go_ret3
    exact ⟨ret_iib hv.out.2.1.symm hv.out.1.symm hv.out.2.2.symm, hb1⟩
  | true =>
    have hel := essz_len es
    have h18 := (logsB_iff.1 q).1
    have hle : (fcM es).length ≤ 1048576 := by rw [fcM_len]; omega
    have hle0 : 0 < (fcM es).length := by rw [fcM_len]; omega
    have hnn := Lib.hid (fcM_nn es)
    have hge := (foldl_max_ge (fcM es) 0).1
    obtain ⟨M, hmx⟩ : ∃ M, mxL (fcM es) = M := ⟨_, rfl⟩
    have hM0 : 0 ≤ M := by rw [← hmx]; exact hge
    have hat := ms_at q hmx
    have hv1 := Lib.hid hat.1
    have hv2 := Lib.hid hat.2
    clear hge
    by_cases hm0 : 0 < M
    · obtain ⟨v, hix⟩ : ∃ v, idxI (fcM es) M = v := ⟨_, rfl⟩
      have hv3 := Lib.hid (ms_idx hat.1 hm0 hix)
      have hv4 : Hid (msB es = true) := Lib.hid (by rw [hv2.out]; simp; exact hm0)
      have t0 : (M == 0) = false := by simp; omega
      have hixH := Lib.hid hix
      clear hat hix
      go_enter Tryd.func9, Tryd.ntmps9
      go_wp2_with fail
      (with_reducible refine (iAreLogs_w es A c _ hr hl _ q).mono ?_)
      rintro e w1 ⟨rfl, hb1⟩
      have sz := hb1.size
      go_wp2_with fail
      (with_reducible refine (faultCounts_any es A c _ (hr.st hb1) hl q).mono ?_)
      rintro e w2 ⟨A3, c3, rfl, ho3, hb2⟩
      have hrd := ho3.rd'.std
      have hB2 := hb1.trans (hb2.mono sz)
      clear hb2 ho3
      go_wp2_with (first | (go_at_call 29; (with_reducible refine (Max_any (fcM es) A3 c3 _ hrd hle hle0 hnn.out _ hmx).mono ?_); rintro e w' ⟨rfl, rfl⟩) | (go_at_call 30; (with_reducible refine (Index_any (fcM es) A3 c3 M _ hrd (by omega)).mono ?_); rintro e w' ⟨rfl, rfl⟩))
      go_ret3
      exact ⟨ret_iib (by rw [hv3.out, hixH.out]) hv1.out.symm hv4.out.symm, hB2⟩
    · obtain rfl : M = 0 := by omega
      have hv3 := Lib.hid (ms_zero hat.1)
      have hv4 : Hid (msB es = false) := Lib.hid (by rw [hv2.out]; simp)
      clear hat
      go_enter Tryd.func9, Tryd.ntmps9
      go_wp2_with fail
      (with_reducible refine (iAreLogs_w es A c _ hr hl _ q).mono ?_)
      rintro e w1 ⟨rfl, hb1⟩
      have sz := hb1.size
      go_wp2_with fail
      (with_reducible refine (faultCounts_any es A c _ (hr.st hb1) hl q).mono ?_)
      rintro e w2 ⟨A3, c3, rfl, ho3, hb2⟩
      have hrd := ho3.rd'.std
      have hB2 := hb1.trans (hb2.mono sz)
      clear hb2 ho3
      go_wp2_with (go_at_call 29; (with_reducible refine (Max_any (fcM es) A3 c3 _ hrd hle hle0 hnn.out _ hmx).mono ?_); rintro e w' ⟨rfl, rfl⟩)
      go_ret3
      exact ⟨ret_iib hv3.out.symm hv1.out.symm hv4.out.symm, hB2⟩
end Go.Proofs.YtjhbffndiaggmaaDoor
