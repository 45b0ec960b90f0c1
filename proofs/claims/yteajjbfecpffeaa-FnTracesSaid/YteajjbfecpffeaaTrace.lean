/-
  Contracts of TraceOf, in the reference and in the program. The conditions are bounds on lengths.
-/
import Derived.Test.YteajjbfecpffeaaPureG
import Derived.Test.YteajjbfecpffeaaSame
namespace Go.Proofs.Yteajjbfecpffeaa
open Go.RowKit Go.ChangeShapes Go.WideShapes
set_option linter.unusedVariables false
set_option linter.unusedSimpArgs false

theorem logB_seen {es : List Ent} (h : logB es = true) (k : Nat) (hk : k < es.length) : 1 ≤ es[k].seen.length := by
  simp only [logB, Bool.and_eq_true] at h
  have h1 := List.all_eq_true.1 h.2 k (List.mem_range.2 hk)
  simp only [okE, enE, enB, sgB, Bool.and_eq_true, inB_iff] at h1
  have h2 := h1.1.2.2.2.1.1.1
  rw [show eAt es k = es[k] by simp [eAt, hk]] at h2
  omega

set_option maxHeartbeats 4000000 in
theorem sTraceOf_any (es : List (List Ent)) (A : Option Addr) (c : Nat) (m p : Int) {l h : Nat} (w : World) (hr0 : RdEE w l h A es) (hl : esszL es ≤ 1048576) :
    Calls Try.prog 15 #[.slice A es.length c, .int .i64 m, .int .i64 p] w fun e w' => ∃ A c, e = .returned (.tuple #[.slice A (trL es m p).length c, .bool (paB es m p)]) ∧ Rd w' 0 w'.heap.size A (trL es m p) ∧ (trL es m p).length ≤ 1048576 ∧ Below w.heap.size w w' := by
  have hr := hr0.std
  clear hr0
  have hel := essz_len es
  cases q : paB es m p with
  | false =>
    rw [trL_no q]
    go_enter Try.func15, Try.ntmps15
    go_wp2_with (go_at_call 60; (with_reducible refine (auAsked_v es A c m p _ hr hl _ q).mono ?_); rintro e w1 ⟨rfl, hb1⟩)
    go_ret2
    (first | exact ⟨none, 0, rfl, Rd.nil, by simp, hb1⟩ | exact ⟨none, 0, rfl, Rd.nil, hb1⟩)
  | true =>
    rw [trL_yes q]
    have hlenH := Lib.hid (trM_len es m p)
    have hlogs := Lib.hid (logsB_iff.1 (paB_log q).1).2
    have henil := fun (W : World) (a : Option Addr) (n c : Nat) => Lib.run_eql_slice_nil (P := Try.prog) W _ _ a n c 0 0 Try.underlying35
    go_enter Try.func15, Try.ntmps15
    go_wp2_with (go_at_call 60; (with_reducible refine (auAsked_v es A c m p _ hr hl _ q).mono ?_); rintro e w1 ⟨rfl, hb1⟩)
    have hsz1 := hb1.size
    have hr1 : RdEE w1 0 w.heap.size A es := hr.st hb1
    go_loopw [8, 9, 20] (fun v f i wr => ∃ k : Nat, k ≤ es.length ∧ i = .int .i64 k ∧ Own wr w1.heap.size wr.heap.size v ((trM es m p).take k) ∧ ((trF es m p k = none ∧ f = .slice none 0 0) ∨ ∃ fs bf of cf, trF es m p k = some fs ∧ f = .slice (some ⟨bf, of, none⟩) fs.length cf ∧ Rd wr 0 w.heap.size (some ⟨bf, of, none⟩) fs ∧ 0 < fs.length ∧ fs.length ≤ 1048576) ∧ Below w1.heap.size w1 wr) (fun _ _ i _ => es.length - (intOf i).toNat)
    case atStart => exact ⟨0, Nat.zero_le _, rfl, Own.nil, .inl ⟨trF_zero _ _ _, rfl⟩, Below.refl _ _⟩
    case round =>
      obtain ⟨k, hk, rfl, hown, hF0, hbr⟩ := hrel
      have hszr := hbr.size
      by_cases hlt : k < es.length
      · obtain ⟨b, off, rfl, _, hb0, hc⟩ := (hr1.st hbr) (by omega)
        obtain ⟨A1, c1, x0, r1, _⟩ := hc k hlt
        have hat := essz_at es k hlt
        have hek := esz_len es[k]
        have hpl : Hid (((trM es m p).take k).length = k) := by show _ = _; rw [List.length_take, hlenH.out]; omega
        clear hc
        by_cases h0 : 0 ≤ findI es[k] m p
        · obtain ⟨qn, hq, hqn⟩ := findI_cast h0
          rcases hF0 with ⟨hF, rfl⟩ | ⟨fs, bf, of, cf, hF, rfl, rF, hfl, hfl2⟩
          · cases hs : eqL es[k][qn].shown es[k][qn].seen with
            | true =>
              have hF' := trF_new hF hlt hq hqn
              have hst := Lib.hid (trM_take_succ hlt (show trV es[k] ((trF es m p (k + 1)).getD []) m p = 1 from by rw [hF']; exact trV_1 hq hqn hs))
              have hFH := Lib.hid hF'
              clear hF'
              go_wp2_with fail
              (with_reducible refine (lgFind_v es[k] A1 c1 m p _ r1 (by omega) _ hq).mono ?_)
              rintro e w2 ⟨rfl, hb2⟩
              have s2 := hb2.size
              have hbr2 := hbr.trans (hb2.mono hszr)
              obtain ⟨b2, off2, rfl, _, _, hc2⟩ := (r1.st hb2) (by omega)
              obtain ⟨D1, d1, D2, d2, z0, z1, z2, z3, z4, q1, q2⟩ := hc2 qn hqn
              have hsl := logB_seen (hlogs.out k hlt) qn hqn
              have hate := esz_at es[k] qn hqn
              have hown2 := (hown.st hb2).mono (Nat.le_refl _) s2
              have hp3 := q1 (by omega)
              obtain ⟨b5, o5, rfl, _, _, _⟩ := hp3
              clear hc2 hown hbr hb2
              go_wp2_with fail
              (with_reducible refine (l1Same_v es[k][qn].shown es[k][qn].seen D2 (some ⟨b5, o5, none⟩) d2 _ _ q2 q1 (by omega) (by omega) _ hs).mono ?_)
              rintro e w4 ⟨rfl, hb4⟩
              have s4 := hb4.size
              have hoW := (hown2.st hb4).mono (Nat.le_refl _) s4
              have hbW := hbr2.trans (hb4.mono (by omega))
              obtain ⟨wX, rfl⟩ : ∃ wX, wX = w4 := ⟨_, rfl⟩
              have hX4 : Below w1.heap.size w2 wX := hb4.mono (by omega)
              have rF : Rd wX 0 w.heap.size (some ⟨b5, o5, none⟩) es[k][qn].seen := q1.st hb4
              have hfl : 0 < es[k][qn].seen.length := by omega
              have hfl2 : es[k][qn].seen.length ≤ 1048576 := by omega
              clear hown2 hbr2 hb4
              have hB2 := hbW
              go_wp2_with (at_builtin; refine wp_append_ints rfl (.tmp 48) (.tmp 49) rfl rfl (hoW.alloc _) (ys := [1]) rfl ((Rd.one wX _ _ _ rfl).mono (Nat.zero_le _) (by simp)) (by rw [hpl.out]; simp; omega) (by simp; omega) ?_; intro v3 w3 hown3 hg3 hb3 hat3)
              have hB3 := Lib.hid ((hbW.alloc (by omega) _).trans (hb3.mono (by omega)))
              have ho3 := Lib.hid hown3
              have hX3 : Below w1.heap.size wX w3 := ((Below.refl w1.heap.size wX).alloc (by omega) _).trans hb3
              have hF3 := Lib.hid (show (trF es m p (k + 1) = none ∧ Value.slice (some ⟨b5, o5, none⟩) es[k][qn].seen.length d1 = .slice none 0 0) ∨ ∃ fs9 bf9 of9 cf9, trF es m p (k + 1) = some fs9 ∧ Value.slice (some ⟨b5, o5, none⟩) es[k][qn].seen.length d1 = .slice (some ⟨bf9, of9, none⟩) fs9.length cf9 ∧ Rd w3 0 w.heap.size (some ⟨bf9, of9, none⟩) fs9 ∧ 0 < fs9.length ∧ fs9.length ≤ 1048576 from Or.inr ⟨es[k][qn].seen, _, _, _, hFH.out, rfl, rF.below hX3 hsz1, hfl, hfl2⟩)
              clear hown3 hg3 hb3 hat3 hoW hbW hX3
              go_roundw
              case rel => exact ⟨k + 1, by omega, by go_num, by rw [hst.out]; exact ho3.out, hF3.out, hB3.out⟩
              case measure => simp [intOf]; omega
            | false =>
              have hF' := trF_new hF hlt hq hqn
              have hst := Lib.hid (trM_take_succ hlt (show trV es[k] ((trF es m p (k + 1)).getD []) m p = 2 from by rw [hF']; exact trV_2 hq hqn hs))
              have hFH := Lib.hid hF'
              clear hF'
              go_wp2_with fail
              (with_reducible refine (lgFind_v es[k] A1 c1 m p _ r1 (by omega) _ hq).mono ?_)
              rintro e w2 ⟨rfl, hb2⟩
              have s2 := hb2.size
              have hbr2 := hbr.trans (hb2.mono hszr)
              obtain ⟨b2, off2, rfl, _, _, hc2⟩ := (r1.st hb2) (by omega)
              obtain ⟨D1, d1, D2, d2, z0, z1, z2, z3, z4, q1, q2⟩ := hc2 qn hqn
              have hsl := logB_seen (hlogs.out k hlt) qn hqn
              have hate := esz_at es[k] qn hqn
              have hown2 := (hown.st hb2).mono (Nat.le_refl _) s2
              have hp3 := q1 (by omega)
              obtain ⟨b5, o5, rfl, _, _, _⟩ := hp3
              clear hc2 hown hbr hb2
              go_wp2_with fail
              (with_reducible refine (l1Same_v es[k][qn].shown es[k][qn].seen D2 (some ⟨b5, o5, none⟩) d2 _ _ q2 q1 (by omega) (by omega) _ hs).mono ?_)
              rintro e w4 ⟨rfl, hb4⟩
              have s4 := hb4.size
              have hoW := (hown2.st hb4).mono (Nat.le_refl _) s4
              have hbW := hbr2.trans (hb4.mono (by omega))
              obtain ⟨wX, rfl⟩ : ∃ wX, wX = w4 := ⟨_, rfl⟩
              have hX4 : Below w1.heap.size w2 wX := hb4.mono (by omega)
              have rF : Rd wX 0 w.heap.size (some ⟨b5, o5, none⟩) es[k][qn].seen := q1.st hb4
              have hfl : 0 < es[k][qn].seen.length := by omega
              have hfl2 : es[k][qn].seen.length ≤ 1048576 := by omega
              clear hown2 hbr2 hb4
              have hB2 := hbW
              go_wp2_with (at_builtin; refine wp_append_ints rfl (.tmp 51) (.tmp 52) rfl rfl (hoW.alloc _) (ys := [2]) rfl ((Rd.one wX _ _ _ rfl).mono (Nat.zero_le _) (by simp)) (by rw [hpl.out]; simp; omega) (by simp; omega) ?_; intro v3 w3 hown3 hg3 hb3 hat3)
              have hB3 := Lib.hid ((hbW.alloc (by omega) _).trans (hb3.mono (by omega)))
              have ho3 := Lib.hid hown3
              have hX3 : Below w1.heap.size wX w3 := ((Below.refl w1.heap.size wX).alloc (by omega) _).trans hb3
              have hF3 := Lib.hid (show (trF es m p (k + 1) = none ∧ Value.slice (some ⟨b5, o5, none⟩) es[k][qn].seen.length d1 = .slice none 0 0) ∨ ∃ fs9 bf9 of9 cf9, trF es m p (k + 1) = some fs9 ∧ Value.slice (some ⟨b5, o5, none⟩) es[k][qn].seen.length d1 = .slice (some ⟨bf9, of9, none⟩) fs9.length cf9 ∧ Rd w3 0 w.heap.size (some ⟨bf9, of9, none⟩) fs9 ∧ 0 < fs9.length ∧ fs9.length ≤ 1048576 from Or.inr ⟨es[k][qn].seen, _, _, _, hFH.out, rfl, rF.below hX3 hsz1, hfl, hfl2⟩)
              clear hown3 hg3 hb3 hat3 hoW hbW hX3
              go_roundw
              case rel => exact ⟨k + 1, by omega, by go_num, by rw [hst.out]; exact ho3.out, hF3.out, hB3.out⟩
              case measure => simp [intOf]; omega
          · cases hs : eqL es[k][qn].shown fs with
            | true =>
              have hF' := trF_old hF
              have hst := Lib.hid (trM_take_succ hlt (show trV es[k] ((trF es m p (k + 1)).getD []) m p = 1 from by rw [hF']; exact trV_1 hq hqn hs))
              have hFH := Lib.hid hF'
              have t0 : ((fs.length : Int) == 0) = false := by simp; (try (intro h; subst h; simp at hfl)); (try omega)
              clear hF' hF
              go_wp2_with fail
              (with_reducible refine (lgFind_v es[k] A1 c1 m p _ r1 (by omega) _ hq).mono ?_)
              rintro e w2 ⟨rfl, hb2⟩
              have s2 := hb2.size
              have hbr2 := hbr.trans (hb2.mono hszr)
              obtain ⟨b2, off2, rfl, _, _, hc2⟩ := (r1.st hb2) (by omega)
              obtain ⟨D1, d1, D2, d2, z0, z1, z2, z3, z4, q1, q2⟩ := hc2 qn hqn
              have hsl := logB_seen (hlogs.out k hlt) qn hqn
              have hate := esz_at es[k] qn hqn
              have hown2 := (hown.st hb2).mono (Nat.le_refl _) s2
              have rF2 := rF.st hb2
              clear hc2 hown hbr hb2
              go_wp2_with fail
              (with_reducible refine (l1Same_v es[k][qn].shown fs D2 (some ⟨bf, of, none⟩) d2 _ _ q2 rF2 (by omega) (by omega) _ hs).mono ?_)
              rintro e w4 ⟨rfl, hb4⟩
              have s4 := hb4.size
              have hoW := (hown2.st hb4).mono (Nat.le_refl _) s4
              have hbW := hbr2.trans (hb4.mono (by omega))
              obtain ⟨wX, rfl⟩ : ∃ wX, wX = w4 := ⟨_, rfl⟩
              have hX4 : Below w1.heap.size w2 wX := hb4.mono (by omega)
              have rF : Rd wX 0 w.heap.size (some ⟨bf, of, none⟩) fs := rF2.st hb4
              clear hown2 hbr2 hb4
              have hB2 := hbW
              go_wp2_with (at_builtin; refine wp_append_ints rfl (.tmp 48) (.tmp 49) rfl rfl (hoW.alloc _) (ys := [1]) rfl ((Rd.one wX _ _ _ rfl).mono (Nat.zero_le _) (by simp)) (by rw [hpl.out]; simp; omega) (by simp; omega) ?_; intro v3 w3 hown3 hg3 hb3 hat3)
              have hB3 := Lib.hid ((hbW.alloc (by omega) _).trans (hb3.mono (by omega)))
              have ho3 := Lib.hid hown3
              have hX3 : Below w1.heap.size wX w3 := ((Below.refl w1.heap.size wX).alloc (by omega) _).trans hb3
              have hF3 := Lib.hid (show (trF es m p (k + 1) = none ∧ Value.slice (some ⟨bf, of, none⟩) fs.length cf = .slice none 0 0) ∨ ∃ fs9 bf9 of9 cf9, trF es m p (k + 1) = some fs9 ∧ Value.slice (some ⟨bf, of, none⟩) fs.length cf = .slice (some ⟨bf9, of9, none⟩) fs9.length cf9 ∧ Rd w3 0 w.heap.size (some ⟨bf9, of9, none⟩) fs9 ∧ 0 < fs9.length ∧ fs9.length ≤ 1048576 from Or.inr ⟨fs, _, _, _, hFH.out, rfl, rF.below hX3 hsz1, hfl, hfl2⟩)
              clear hown3 hg3 hb3 hat3 hoW hbW hX3
              go_roundw
              case rel => exact ⟨k + 1, by omega, by go_num, by rw [hst.out]; exact ho3.out, hF3.out, hB3.out⟩
              case measure => simp [intOf]; omega
            | false =>
              have hF' := trF_old hF
              have hst := Lib.hid (trM_take_succ hlt (show trV es[k] ((trF es m p (k + 1)).getD []) m p = 2 from by rw [hF']; exact trV_2 hq hqn hs))
              have hFH := Lib.hid hF'
              have t0 : ((fs.length : Int) == 0) = false := by simp; (try (intro h; subst h; simp at hfl)); (try omega)
              clear hF' hF
              go_wp2_with fail
              (with_reducible refine (lgFind_v es[k] A1 c1 m p _ r1 (by omega) _ hq).mono ?_)
              rintro e w2 ⟨rfl, hb2⟩
              have s2 := hb2.size
              have hbr2 := hbr.trans (hb2.mono hszr)
              obtain ⟨b2, off2, rfl, _, _, hc2⟩ := (r1.st hb2) (by omega)
              obtain ⟨D1, d1, D2, d2, z0, z1, z2, z3, z4, q1, q2⟩ := hc2 qn hqn
              have hsl := logB_seen (hlogs.out k hlt) qn hqn
              have hate := esz_at es[k] qn hqn
              have hown2 := (hown.st hb2).mono (Nat.le_refl _) s2
              have rF2 := rF.st hb2
              clear hc2 hown hbr hb2
              go_wp2_with fail
              (with_reducible refine (l1Same_v es[k][qn].shown fs D2 (some ⟨bf, of, none⟩) d2 _ _ q2 rF2 (by omega) (by omega) _ hs).mono ?_)
              rintro e w4 ⟨rfl, hb4⟩
              have s4 := hb4.size
              have hoW := (hown2.st hb4).mono (Nat.le_refl _) s4
              have hbW := hbr2.trans (hb4.mono (by omega))
              obtain ⟨wX, rfl⟩ : ∃ wX, wX = w4 := ⟨_, rfl⟩
              have hX4 : Below w1.heap.size w2 wX := hb4.mono (by omega)
              have rF : Rd wX 0 w.heap.size (some ⟨bf, of, none⟩) fs := rF2.st hb4
              clear hown2 hbr2 hb4
              have hB2 := hbW
              go_wp2_with (at_builtin; refine wp_append_ints rfl (.tmp 51) (.tmp 52) rfl rfl (hoW.alloc _) (ys := [2]) rfl ((Rd.one wX _ _ _ rfl).mono (Nat.zero_le _) (by simp)) (by rw [hpl.out]; simp; omega) (by simp; omega) ?_; intro v3 w3 hown3 hg3 hb3 hat3)
              have hB3 := Lib.hid ((hbW.alloc (by omega) _).trans (hb3.mono (by omega)))
              have ho3 := Lib.hid hown3
              have hX3 : Below w1.heap.size wX w3 := ((Below.refl w1.heap.size wX).alloc (by omega) _).trans hb3
              have hF3 := Lib.hid (show (trF es m p (k + 1) = none ∧ Value.slice (some ⟨bf, of, none⟩) fs.length cf = .slice none 0 0) ∨ ∃ fs9 bf9 of9 cf9, trF es m p (k + 1) = some fs9 ∧ Value.slice (some ⟨bf, of, none⟩) fs.length cf = .slice (some ⟨bf9, of9, none⟩) fs9.length cf9 ∧ Rd w3 0 w.heap.size (some ⟨bf9, of9, none⟩) fs9 ∧ 0 < fs9.length ∧ fs9.length ≤ 1048576 from Or.inr ⟨fs, _, _, _, hFH.out, rfl, rF.below hX3 hsz1, hfl, hfl2⟩)
              clear hown3 hg3 hb3 hat3 hoW hbW hX3
              go_roundw
              case rel => exact ⟨k + 1, by omega, by go_num, by rw [hst.out]; exact ho3.out, hF3.out, hB3.out⟩
              case measure => simp [intOf]; omega
        · have hq : findI es[k] m p = -1 := by have := findI_range es[k] m p; omega
          have hst := Lib.hid (trM_take_succ hlt (trV_0 (f := (trF es m p (k + 1)).getD []) h0))
          rcases hF0 with ⟨hF, rfl⟩ | ⟨fs, bf, of, cf, hF, rfl, rF, hfl, hfl2⟩
          · have hF' := Lib.hid (trF_none hF hlt h0)
            clear h0 hF
            go_wp2_with fail
            (with_reducible refine (lgFind_v es[k] A1 c1 m p _ r1 (by omega) _ hq).mono ?_)
            rintro e w2 ⟨rfl, hb2⟩
            have s2 := hb2.size
            have hbr2 := hbr.trans (hb2.mono hszr)
            have hoW := (hown.st hb2).mono (Nat.le_refl _) s2
            have hbW := hbr2
            obtain ⟨wX, rfl⟩ : ∃ wX, wX = w2 := ⟨_, rfl⟩
            clear hown hbr hb2
            have hB2 := hbW
            go_wp2_with (at_builtin; refine wp_append_ints rfl (.tmp 30) (.tmp 31) rfl rfl (hoW.alloc _) (ys := [0]) rfl ((Rd.one wX _ _ _ rfl).mono (Nat.zero_le _) (by simp)) (by rw [hpl.out]; simp; omega) (by simp; omega) ?_; intro v3 w3 hown3 hg3 hb3 hat3)
            have hB3 := Lib.hid ((hbW.alloc (by omega) _).trans (hb3.mono (by omega)))
            have ho3 := Lib.hid hown3
            have hX3 : Below w1.heap.size wX w3 := ((Below.refl w1.heap.size wX).alloc (by omega) _).trans hb3
            have hF3 := Lib.hid (show (trF es m p (k + 1) = none ∧ Value.slice none 0 0 = .slice none 0 0) ∨ ∃ fs bf of cf, trF es m p (k + 1) = some fs ∧ Value.slice none 0 0 = .slice (some ⟨bf, of, none⟩) fs.length cf ∧ Rd w3 0 w.heap.size (some ⟨bf, of, none⟩) fs ∧ 0 < fs.length ∧ fs.length ≤ 1048576 from Or.inl ⟨hF'.out, rfl⟩)
            clear hown3 hg3 hb3 hat3 hoW hbW hX3
            go_roundw
            case rel => exact ⟨k + 1, by omega, by go_num, by rw [hst.out]; exact ho3.out, hF3.out, hB3.out⟩
            case measure => simp [intOf]; omega
          · have hF' := Lib.hid (trF_old hF)
            clear h0 hF
            go_wp2_with fail
            (with_reducible refine (lgFind_v es[k] A1 c1 m p _ r1 (by omega) _ hq).mono ?_)
            rintro e w2 ⟨rfl, hb2⟩
            have s2 := hb2.size
            have hbr2 := hbr.trans (hb2.mono hszr)
            have rF2 := rF.st hb2
            have hoW := (hown.st hb2).mono (Nat.le_refl _) s2
            have hbW := hbr2
            obtain ⟨wX, rfl⟩ : ∃ wX, wX = w2 := ⟨_, rfl⟩
            have rF := rF2
            clear hown hbr hb2
            have hB2 := hbW
            go_wp2_with (at_builtin; refine wp_append_ints rfl (.tmp 30) (.tmp 31) rfl rfl (hoW.alloc _) (ys := [0]) rfl ((Rd.one wX _ _ _ rfl).mono (Nat.zero_le _) (by simp)) (by rw [hpl.out]; simp; omega) (by simp; omega) ?_; intro v3 w3 hown3 hg3 hb3 hat3)
            have hB3 := Lib.hid ((hbW.alloc (by omega) _).trans (hb3.mono (by omega)))
            have ho3 := Lib.hid hown3
            have hX3 : Below w1.heap.size wX w3 := ((Below.refl w1.heap.size wX).alloc (by omega) _).trans hb3
            have hF3 := Lib.hid (show (trF es m p (k + 1) = none ∧ Value.slice (some ⟨bf, of, none⟩) fs.length cf = .slice none 0 0) ∨ ∃ fs9 bf9 of9 cf9, trF es m p (k + 1) = some fs9 ∧ Value.slice (some ⟨bf, of, none⟩) fs.length cf = .slice (some ⟨bf9, of9, none⟩) fs9.length cf9 ∧ Rd w3 0 w.heap.size (some ⟨bf9, of9, none⟩) fs9 ∧ 0 < fs9.length ∧ fs9.length ≤ 1048576 from Or.inr ⟨fs, _, _, _, hF'.out, rfl, rF.below hX3 hsz1, hfl, hfl2⟩)
            clear hown3 hg3 hb3 hat3 hoW hbW hX3
            go_roundw
            case rel => exact ⟨k + 1, by omega, by go_num, by rw [hst.out]; exact ho3.out, hF3.out, hB3.out⟩
            case measure => simp [intOf]; omega
      · obtain rfl : k = es.length := by omega
        have hfin : Hid ((trM es m p).take es.length = trM es m p) := by show _ = _; rw [List.take_of_length_le (by rw [hlenH.out]; exact Nat.le_refl _)]
        rw [hfin.out] at hown
        obtain ⟨A, c, rfl, -, -⟩ := hown.rd
        have ho := Lib.hid hown
        have hB := hb1.trans (hbr.mono hsz1)
        clear hown hF0
        go_wp2
        go_ret2
        exact ⟨_, _, rfl, ho.out.rd'.std, by rw [hlenH.out]; omega, hB⟩

set_option maxHeartbeats 4000000 in
theorem iTraceOf_any (es : List (List Ent)) (A : Option Addr) (c : Nat) (m p : Int) {l h : Nat} (w : World) (hr0 : RdEE w l h A es) (hl : esszL es ≤ 1048576) :
    Calls Try.prog 14 #[.slice A es.length c, .int .i64 m, .int .i64 p] w fun e w' => ∃ A c, e = .returned (.tuple #[.slice A (trL es m p).length c, .bool (paB es m p)]) ∧ Own w' w.heap.size w'.heap.size (.slice A (trL es m p).length c) (trL es m p) ∧ (trL es m p).length ≤ 1048576 ∧ Below w.heap.size w w' := by
  have hr := hr0.std
  clear hr0
  have hel := essz_len es
  cases q : paB es m p with
  | false =>
    rw [trL_no q]
    go_enter Try.func14, Try.ntmps14
    go_wp2_with (go_at_call 57; (with_reducible refine (partAsked_v es A c m p _ hr hl _ q).mono ?_); rintro e w1 ⟨rfl, hb1⟩)
    go_ret2
    (first | exact ⟨none, 0, rfl, Own.nil, by simp, hb1⟩ | exact ⟨none, 0, rfl, Own.nil, hb1⟩)
  | true =>
    rw [trL_yes q]
    have hlenH := Lib.hid (trM_len es m p)
    have hlogs := Lib.hid (logsB_iff.1 (paB_log q).1).2
    have henil := fun (W : World) (a : Option Addr) (n c : Nat) => Lib.run_eql_slice_nil (P := Try.prog) W _ _ a n c 0 0 Try.underlying35
    go_enter Try.func14, Try.ntmps14
    go_wp2_with (first | (go_at_call 57; (with_reducible refine (partAsked_v es A c m p _ hr hl _ q).mono ?_); rintro e w1 ⟨rfl, hb1⟩) | (at_make; refine wp_make_ints rfl _ _ rfl es.length rfl rfl (by omega) ?_; intro w2 hown2 hb2 hs2))
    have hsz1 := hb1.size
    have hB2 := hb1.trans (hb2.mono hsz1)
    have ho1 : Hid (Own w2 w1.heap.size (w1.heap.size + 1) (.slice (some ⟨w1.heap.size, 0, none⟩) es.length es.length) (tk (trM es m p) 0)) := by
      show Own _ _ _ _ _
      rw [tk_zero, hlenH.out]
      exact hown2.mono (Nat.le_refl _) (by omega)
    have hrw : RdEE w2 0 w.heap.size A es := (hr.st hb1).st hb2
    have hge : w1.heap.size + 1 ≤ w2.heap.size := by omega
    clear hown2 hs2
    go_loopw [9, 23] (fun f i wr => ∃ k : Nat, k ≤ es.length ∧ i = .int .i64 k ∧ Own wr w1.heap.size (w1.heap.size + 1) (.slice (some ⟨w1.heap.size, 0, none⟩) es.length es.length) (tk (trM es m p) k) ∧ ((trF es m p k = none ∧ f = .slice none 0 0) ∨ ∃ fs bf of cf, trF es m p k = some fs ∧ f = .slice (some ⟨bf, of, none⟩) fs.length cf ∧ Rd wr 0 w.heap.size (some ⟨bf, of, none⟩) fs ∧ 0 < fs.length ∧ fs.length ≤ 1048576) ∧ Below w1.heap.size w2 wr ∧ w1.heap.size + 1 ≤ wr.heap.size) (fun _ i _ => es.length - (intOf i).toNat)
    case atStart => exact ⟨0, Nat.zero_le _, rfl, ho1.out, .inl ⟨trF_zero _ _ _, rfl⟩, Below.refl _ _, hge⟩
    case round =>
      clear ho1 hge
      obtain ⟨k, hk, rfl, hown, hF0, hbr, hszr⟩ := hrel
      by_cases hlt : k < es.length
      · obtain ⟨b, off, rfl, _, hb0, hc⟩ := (hrw.below hbr hsz1) (by omega)
        obtain ⟨A1, c1, x0, r1, _⟩ := hc k hlt
        have hat := essz_at es k hlt
        have hek := esz_len es[k]
        clear hc
        by_cases h0 : 0 ≤ findI es[k] m p
        · obtain ⟨qn, hq, hqn⟩ := findI_cast h0
          rcases hF0 with ⟨hF, rfl⟩ | ⟨fs, bf, of, cf, hF, rfl, rF, hfl, hfl2⟩
          · cases hs : eqL es[k][qn].shown es[k][qn].seen with
            | true =>
              have hF' := trF_new hF hlt hq hqn
              have hst := Lib.hid (trM_tk_succ hlt (show trV es[k] ((trF es m p (k + 1)).getD []) m p = 1 from by rw [hF']; exact trV_1 hq hqn hs))
              have hFH := Lib.hid hF'
              clear hF'
              go_wp2_with fail
              (with_reducible refine (entryIndex_n es[k] A1 es[k].length c1 m p _ r1 rfl (by omega) _ hq).mono ?_)
              rintro e w4 ⟨rfl, hb4⟩
              have s4 := hb4.size
              have hbr2 := hbr.trans (hb4.mono (by omega))
              have hown2 := hown.st hb4
              obtain ⟨b2, off2, rfl, _, _, hc2⟩ := (r1.st hb4) (by omega)
              obtain ⟨D1, d1, D2, d2, z0, z1, z2, z3, z4, q1, q2⟩ := hc2 qn hqn
              have hsl := logB_seen (hlogs.out k hlt) qn hqn
              have hate := esz_at es[k] qn hqn
              obtain ⟨g, c', he, _, _, g3, hcell, hfr⟩ := hown2.at_ (by rw [tk_length _ _ (by rw [hlenH.out]; omega), hlenH.out]; omega)
              injection he with e1 e2 e3
              injection e1 with e1
              injection e1 with e1 e4
              subst e1
              have hfz := hfr k
              obtain ⟨x, hcd⟩ : ∃ x, w4.cell? ⟨w1.heap.size, k, none⟩ = some (.int .i64 x) := ⟨_, hcell k (by rw [tk_length _ _ (by rw [hlenH.out]; omega), hlenH.out]; omega)⟩
              have hs1 := hown2.stored (j := k) 2
              have hsB := hbr2.setCell (p := ⟨w1.heap.size, k, none⟩) (Nat.le_refl _) (.int .i64 2)
              have hssz := Lib.hid (size_setCell w4 ⟨w1.heap.size, k, none⟩ (.int .i64 2))
              clear hcell hfr e2 e3 e4
              have hp3 := q1 (by omega)
              obtain ⟨b5, o5, rfl, _, _, _⟩ := hp3
              have q2' : Rd (w4.setCell ⟨w1.heap.size, k, none⟩ (.int .i64 2)) 0 w.heap.size D2 es[k][qn].shown := q2.below ((Below.refl w1.heap.size w4).setCell (p := ⟨w1.heap.size, k, none⟩) (Nat.le_refl _) (.int .i64 2)) hsz1
              have rF' : Rd (w4.setCell ⟨w1.heap.size, k, none⟩ (.int .i64 2)) 0 w.heap.size (some ⟨b5, o5, none⟩) es[k][qn].seen := q1.below ((Below.refl w1.heap.size w4).setCell (p := ⟨w1.heap.size, k, none⟩) (Nat.le_refl _) (.int .i64 2)) hsz1
              have z4' := (Below.cell ((Below.refl w1.heap.size w4).setCell (p := ⟨w1.heap.size, k, none⟩) (Nat.le_refl _) (.int .i64 2)) (p := ⟨b2, off2 + qn * 5 + 4, none⟩) (by show b2 < _; omega)).trans z4
              clear hown hbr hb4 hown2 hbr2 z4
              go_wp2_with fail
              (with_reducible refine (slEqual_v es[k][qn].shown es[k][qn].seen D2 (some ⟨b5, o5, none⟩) d2 _ _ q2' rF' (by omega) (by omega) _ hs).mono ?_)
              rintro e w5 ⟨rfl, hb5⟩
              have s5 : w4.heap.size ≤ w5.heap.size := by have := hb5.size; rw [hssz.out] at this; exact this
              have hB5 := hsB.trans (hb5.mono (by rw [hssz.out]; omega))
              have ho5 := hs1.st hb5
              have rF5 := rF'.st hb5
              have hfl : 0 < es[k][qn].seen.length := by omega
              have hfl2 : es[k][qn].seen.length ≤ 1048576 := by omega
              obtain ⟨g, c', he, _, _, g5, hcell, hfr⟩ := ho5.at_ (by rw [List.length_set, tk_length _ _ (by rw [hlenH.out]; omega), hlenH.out]; omega)
              injection he with e1 e2 e3
              injection e1 with e1
              injection e1 with e1 e4
              subst e1
              have hfz5 := hfr k
              obtain ⟨x5, hcd5⟩ : ∃ x, w5.cell? ⟨w1.heap.size, k, none⟩ = some (.int .i64 x) := ⟨_, hcell k (by rw [List.length_set, tk_length _ _ (by rw [hlenH.out]; omega), hlenH.out]; omega)⟩
              have hs6 := Lib.hid (ho5.stored (j := k) 1)
              have hB6 := Lib.hid (hB5.setCell (p := ⟨w1.heap.size, k, none⟩) (Nat.le_refl _) (.int .i64 1))
              have rF6 := Lib.hid (rF5.below ((Below.refl w1.heap.size w5).setCell (p := ⟨w1.heap.size, k, none⟩) (Nat.le_refl _) (.int .i64 1)) hsz1)
              have hz6 := Lib.hid (size_setCell w5 ⟨w1.heap.size, k, none⟩ (.int .i64 1))
              clear hcell hfr e2 e3 e4 ho5 hB5 rF5 hb5 hs1 hsB hcd hfz q2' rF' q1 q2 z0 z1 z2 z3 z4' hc2
              go_wp2
              go_roundw
              case rel => exact ⟨k + 1, by omega, by go_num, by rw [← hst.out, ← set_set _ k 2]; exact hs6.out, Or.inr ⟨es[k][qn].seen, _, _, _, hFH.out, rfl, rF6.out, hfl, hfl2⟩, hB6.out, by rw [hz6.out]; omega⟩
              case measure => simp [intOf]; omega
            | false =>
              have hF' := trF_new hF hlt hq hqn
              have hst := Lib.hid (trM_tk_succ hlt (show trV es[k] ((trF es m p (k + 1)).getD []) m p = 2 from by rw [hF']; exact trV_2 hq hqn hs))
              have hFH := Lib.hid hF'
              clear hF'
              go_wp2_with fail
              (with_reducible refine (entryIndex_n es[k] A1 es[k].length c1 m p _ r1 rfl (by omega) _ hq).mono ?_)
              rintro e w4 ⟨rfl, hb4⟩
              have s4 := hb4.size
              have hbr2 := hbr.trans (hb4.mono (by omega))
              have hown2 := hown.st hb4
              obtain ⟨b2, off2, rfl, _, _, hc2⟩ := (r1.st hb4) (by omega)
              obtain ⟨D1, d1, D2, d2, z0, z1, z2, z3, z4, q1, q2⟩ := hc2 qn hqn
              have hsl := logB_seen (hlogs.out k hlt) qn hqn
              have hate := esz_at es[k] qn hqn
              obtain ⟨g, c', he, _, _, g3, hcell, hfr⟩ := hown2.at_ (by rw [tk_length _ _ (by rw [hlenH.out]; omega), hlenH.out]; omega)
              injection he with e1 e2 e3
              injection e1 with e1
              injection e1 with e1 e4
              subst e1
              have hfz := hfr k
              obtain ⟨x, hcd⟩ : ∃ x, w4.cell? ⟨w1.heap.size, k, none⟩ = some (.int .i64 x) := ⟨_, hcell k (by rw [tk_length _ _ (by rw [hlenH.out]; omega), hlenH.out]; omega)⟩
              have hs1 := hown2.stored (j := k) 2
              have hsB := hbr2.setCell (p := ⟨w1.heap.size, k, none⟩) (Nat.le_refl _) (.int .i64 2)
              have hssz := Lib.hid (size_setCell w4 ⟨w1.heap.size, k, none⟩ (.int .i64 2))
              clear hcell hfr e2 e3 e4
              have hp3 := q1 (by omega)
              obtain ⟨b5, o5, rfl, _, _, _⟩ := hp3
              have q2' : Rd (w4.setCell ⟨w1.heap.size, k, none⟩ (.int .i64 2)) 0 w.heap.size D2 es[k][qn].shown := q2.below ((Below.refl w1.heap.size w4).setCell (p := ⟨w1.heap.size, k, none⟩) (Nat.le_refl _) (.int .i64 2)) hsz1
              have rF' : Rd (w4.setCell ⟨w1.heap.size, k, none⟩ (.int .i64 2)) 0 w.heap.size (some ⟨b5, o5, none⟩) es[k][qn].seen := q1.below ((Below.refl w1.heap.size w4).setCell (p := ⟨w1.heap.size, k, none⟩) (Nat.le_refl _) (.int .i64 2)) hsz1
              have z4' := (Below.cell ((Below.refl w1.heap.size w4).setCell (p := ⟨w1.heap.size, k, none⟩) (Nat.le_refl _) (.int .i64 2)) (p := ⟨b2, off2 + qn * 5 + 4, none⟩) (by show b2 < _; omega)).trans z4
              clear hown hbr hb4 hown2 hbr2 z4
              go_wp2_with fail
              (with_reducible refine (slEqual_v es[k][qn].shown es[k][qn].seen D2 (some ⟨b5, o5, none⟩) d2 _ _ q2' rF' (by omega) (by omega) _ hs).mono ?_)
              rintro e w5 ⟨rfl, hb5⟩
              have s5 : w4.heap.size ≤ w5.heap.size := by have := hb5.size; rw [hssz.out] at this; exact this
              have hB5 := hsB.trans (hb5.mono (by rw [hssz.out]; omega))
              have ho5 := hs1.st hb5
              have rF5 := rF'.st hb5
              have hfl : 0 < es[k][qn].seen.length := by omega
              have hfl2 : es[k][qn].seen.length ≤ 1048576 := by omega
              have hs6 := Lib.hid ho5
              have hB6 := Lib.hid hB5
              have rF6 := Lib.hid rF5
              clear ho5 hB5 rF5 hb5 hs1 hsB
              go_wp2
              go_roundw
              case rel => exact ⟨k + 1, by omega, by go_num, by rw [← hst.out]; exact hs6.out, Or.inr ⟨es[k][qn].seen, _, _, _, hFH.out, rfl, rF6.out, hfl, hfl2⟩, hB6.out, by omega⟩
              case measure => simp [intOf]; omega
          · cases hs : eqL es[k][qn].shown fs with
            | true =>
              have hF' := trF_old hF
              have hst := Lib.hid (trM_tk_succ hlt (show trV es[k] ((trF es m p (k + 1)).getD []) m p = 1 from by rw [hF']; exact trV_1 hq hqn hs))
              have hFH := Lib.hid hF'
              clear hF' hF
              go_wp2_with fail
              (with_reducible refine (entryIndex_n es[k] A1 es[k].length c1 m p _ r1 rfl (by omega) _ hq).mono ?_)
              rintro e w4 ⟨rfl, hb4⟩
              have s4 := hb4.size
              have hbr2 := hbr.trans (hb4.mono (by omega))
              have hown2 := hown.st hb4
              have rF2 := rF.st hb4
              obtain ⟨b2, off2, rfl, _, _, hc2⟩ := (r1.st hb4) (by omega)
              obtain ⟨D1, d1, D2, d2, z0, z1, z2, z3, z4, q1, q2⟩ := hc2 qn hqn
              have hsl := logB_seen (hlogs.out k hlt) qn hqn
              have hate := esz_at es[k] qn hqn
              obtain ⟨g, c', he, _, _, g3, hcell, hfr⟩ := hown2.at_ (by rw [tk_length _ _ (by rw [hlenH.out]; omega), hlenH.out]; omega)
              injection he with e1 e2 e3
              injection e1 with e1
              injection e1 with e1 e4
              subst e1
              have hfz := hfr k
              obtain ⟨x, hcd⟩ : ∃ x, w4.cell? ⟨w1.heap.size, k, none⟩ = some (.int .i64 x) := ⟨_, hcell k (by rw [tk_length _ _ (by rw [hlenH.out]; omega), hlenH.out]; omega)⟩
              have hs1 := hown2.stored (j := k) 2
              have hsB := hbr2.setCell (p := ⟨w1.heap.size, k, none⟩) (Nat.le_refl _) (.int .i64 2)
              have hssz := Lib.hid (size_setCell w4 ⟨w1.heap.size, k, none⟩ (.int .i64 2))
              clear hcell hfr e2 e3 e4
              have q2' : Rd (w4.setCell ⟨w1.heap.size, k, none⟩ (.int .i64 2)) 0 w.heap.size D2 es[k][qn].shown := q2.below ((Below.refl w1.heap.size w4).setCell (p := ⟨w1.heap.size, k, none⟩) (Nat.le_refl _) (.int .i64 2)) hsz1
              have rF' : Rd (w4.setCell ⟨w1.heap.size, k, none⟩ (.int .i64 2)) 0 w.heap.size (some ⟨bf, of, none⟩) fs := rF2.below ((Below.refl w1.heap.size w4).setCell (p := ⟨w1.heap.size, k, none⟩) (Nat.le_refl _) (.int .i64 2)) hsz1
              have z4' := (Below.cell ((Below.refl w1.heap.size w4).setCell (p := ⟨w1.heap.size, k, none⟩) (Nat.le_refl _) (.int .i64 2)) (p := ⟨b2, off2 + qn * 5 + 4, none⟩) (by show b2 < _; omega)).trans z4
              clear hown hbr hb4 hown2 hbr2 z4
              go_wp2_with fail
              (with_reducible refine (slEqual_v es[k][qn].shown fs D2 (some ⟨bf, of, none⟩) d2 _ _ q2' rF' (by omega) (by omega) _ hs).mono ?_)
              rintro e w5 ⟨rfl, hb5⟩
              have s5 : w4.heap.size ≤ w5.heap.size := by have := hb5.size; rw [hssz.out] at this; exact this
              have hB5 := hsB.trans (hb5.mono (by rw [hssz.out]; omega))
              have ho5 := hs1.st hb5
              have rF5 := rF'.st hb5
              obtain ⟨g, c', he, _, _, g5, hcell, hfr⟩ := ho5.at_ (by rw [List.length_set, tk_length _ _ (by rw [hlenH.out]; omega), hlenH.out]; omega)
              injection he with e1 e2 e3
              injection e1 with e1
              injection e1 with e1 e4
              subst e1
              have hfz5 := hfr k
              obtain ⟨x5, hcd5⟩ : ∃ x, w5.cell? ⟨w1.heap.size, k, none⟩ = some (.int .i64 x) := ⟨_, hcell k (by rw [List.length_set, tk_length _ _ (by rw [hlenH.out]; omega), hlenH.out]; omega)⟩
              have hs6 := Lib.hid (ho5.stored (j := k) 1)
              have hB6 := Lib.hid (hB5.setCell (p := ⟨w1.heap.size, k, none⟩) (Nat.le_refl _) (.int .i64 1))
              have rF6 := Lib.hid (rF5.below ((Below.refl w1.heap.size w5).setCell (p := ⟨w1.heap.size, k, none⟩) (Nat.le_refl _) (.int .i64 1)) hsz1)
              have hz6 := Lib.hid (size_setCell w5 ⟨w1.heap.size, k, none⟩ (.int .i64 1))
              clear hcell hfr e2 e3 e4 ho5 hB5 rF5 hb5 hs1 hsB hcd hfz q2' rF' q1 q2 z0 z1 z2 z3 z4' hc2
              go_wp2
              go_roundw
              case rel => exact ⟨k + 1, by omega, by go_num, by rw [← hst.out, ← set_set _ k 2]; exact hs6.out, Or.inr ⟨fs, _, _, _, hFH.out, rfl, rF6.out, hfl, hfl2⟩, hB6.out, by rw [hz6.out]; omega⟩
              case measure => simp [intOf]; omega
            | false =>
              have hF' := trF_old hF
              have hst := Lib.hid (trM_tk_succ hlt (show trV es[k] ((trF es m p (k + 1)).getD []) m p = 2 from by rw [hF']; exact trV_2 hq hqn hs))
              have hFH := Lib.hid hF'
              clear hF' hF
              go_wp2_with fail
              (with_reducible refine (entryIndex_n es[k] A1 es[k].length c1 m p _ r1 rfl (by omega) _ hq).mono ?_)
              rintro e w4 ⟨rfl, hb4⟩
              have s4 := hb4.size
              have hbr2 := hbr.trans (hb4.mono (by omega))
              have hown2 := hown.st hb4
              have rF2 := rF.st hb4
              obtain ⟨b2, off2, rfl, _, _, hc2⟩ := (r1.st hb4) (by omega)
              obtain ⟨D1, d1, D2, d2, z0, z1, z2, z3, z4, q1, q2⟩ := hc2 qn hqn
              have hsl := logB_seen (hlogs.out k hlt) qn hqn
              have hate := esz_at es[k] qn hqn
              obtain ⟨g, c', he, _, _, g3, hcell, hfr⟩ := hown2.at_ (by rw [tk_length _ _ (by rw [hlenH.out]; omega), hlenH.out]; omega)
              injection he with e1 e2 e3
              injection e1 with e1
              injection e1 with e1 e4
              subst e1
              have hfz := hfr k
              obtain ⟨x, hcd⟩ : ∃ x, w4.cell? ⟨w1.heap.size, k, none⟩ = some (.int .i64 x) := ⟨_, hcell k (by rw [tk_length _ _ (by rw [hlenH.out]; omega), hlenH.out]; omega)⟩
              have hs1 := hown2.stored (j := k) 2
              have hsB := hbr2.setCell (p := ⟨w1.heap.size, k, none⟩) (Nat.le_refl _) (.int .i64 2)
              have hssz := Lib.hid (size_setCell w4 ⟨w1.heap.size, k, none⟩ (.int .i64 2))
              clear hcell hfr e2 e3 e4
              have q2' : Rd (w4.setCell ⟨w1.heap.size, k, none⟩ (.int .i64 2)) 0 w.heap.size D2 es[k][qn].shown := q2.below ((Below.refl w1.heap.size w4).setCell (p := ⟨w1.heap.size, k, none⟩) (Nat.le_refl _) (.int .i64 2)) hsz1
              have rF' : Rd (w4.setCell ⟨w1.heap.size, k, none⟩ (.int .i64 2)) 0 w.heap.size (some ⟨bf, of, none⟩) fs := rF2.below ((Below.refl w1.heap.size w4).setCell (p := ⟨w1.heap.size, k, none⟩) (Nat.le_refl _) (.int .i64 2)) hsz1
              have z4' := (Below.cell ((Below.refl w1.heap.size w4).setCell (p := ⟨w1.heap.size, k, none⟩) (Nat.le_refl _) (.int .i64 2)) (p := ⟨b2, off2 + qn * 5 + 4, none⟩) (by show b2 < _; omega)).trans z4
              clear hown hbr hb4 hown2 hbr2 z4
              go_wp2_with fail
              (with_reducible refine (slEqual_v es[k][qn].shown fs D2 (some ⟨bf, of, none⟩) d2 _ _ q2' rF' (by omega) (by omega) _ hs).mono ?_)
              rintro e w5 ⟨rfl, hb5⟩
              have s5 : w4.heap.size ≤ w5.heap.size := by have := hb5.size; rw [hssz.out] at this; exact this
              have hB5 := hsB.trans (hb5.mono (by rw [hssz.out]; omega))
              have ho5 := hs1.st hb5
              have rF5 := rF'.st hb5
              have hs6 := Lib.hid ho5
              have hB6 := Lib.hid hB5
              have rF6 := Lib.hid rF5
              clear ho5 hB5 rF5 hb5 hs1 hsB
              go_wp2
              go_roundw
              case rel => exact ⟨k + 1, by omega, by go_num, by rw [← hst.out]; exact hs6.out, Or.inr ⟨fs, _, _, _, hFH.out, rfl, rF6.out, hfl, hfl2⟩, hB6.out, by omega⟩
              case measure => simp [intOf]; omega
        · have hq : findI es[k] m p = -1 := by have := findI_range es[k] m p; omega
          have hst := Lib.hid (trM_tk_zero hlt (trV_0 (f := (trF es m p (k + 1)).getD []) h0))
          rcases hF0 with ⟨hF, rfl⟩ | ⟨fs, bf, of, cf, hF, rfl, rF, hfl, hfl2⟩
          · have hF' := Lib.hid (trF_none hF hlt h0)
            clear h0 hF
            go_wp2_with fail
            (with_reducible refine (entryIndex_n es[k] A1 es[k].length c1 m p _ r1 rfl (by omega) _ hq).mono ?_)
            rintro e w4 ⟨rfl, hb4⟩
            have s4 := hb4.size
            have hbr2 := hbr.trans (hb4.mono (by omega))
            have hown2 := hown.st hb4
            have hoH := Lib.hid hown2
            have hBH := Lib.hid hbr2
            clear hown2 hbr2 hown hbr hb4
            go_wp2
            go_roundw
            case rel => exact ⟨k + 1, by omega, by go_num, by rw [← hst.out]; exact hoH.out, Or.inl ⟨hF'.out, rfl⟩, hBH.out, by omega⟩
            case measure => simp [intOf]; omega
          · have hF' := Lib.hid (trF_old hF)
            clear h0 hF
            go_wp2_with fail
            (with_reducible refine (entryIndex_n es[k] A1 es[k].length c1 m p _ r1 rfl (by omega) _ hq).mono ?_)
            rintro e w4 ⟨rfl, hb4⟩
            have s4 := hb4.size
            have hbr2 := hbr.trans (hb4.mono (by omega))
            have hown2 := hown.st hb4
            have rF2 := Lib.hid (rF.st hb4)
            have hoH := Lib.hid hown2
            have hBH := Lib.hid hbr2
            clear hown2 hbr2 hown hbr hb4 rF
            go_wp2
            go_roundw
            case rel => exact ⟨k + 1, by omega, by go_num, by rw [← hst.out]; exact hoH.out, Or.inr ⟨fs, _, _, _, hF'.out, rfl, rF2.out, hfl, hfl2⟩, hBH.out, by omega⟩
            case measure => simp [intOf]; omega
      · obtain rfl : k = es.length := by omega
        have hfin : Hid (tk (trM es m p) es.length = trM es m p) := by show _ = _; rw [← hlenH.out]; exact tk_all _
        rw [hfin.out] at hown
        have ho : Hid (Own wr w.heap.size wr.heap.size (.slice (some ⟨w1.heap.size, 0, none⟩) (trM es m p).length es.length) (trM es m p)) := by rw [hlenH.out]; exact hown.mono hsz1 hszr
        have hB := hB2.trans (hbr.mono hsz1)
        clear hown hF0
        go_wp2
        go_ret2
        exact ⟨_, _, by rw [hlenH.out]; rfl, ho.out, by rw [hlenH.out]; omega, hB⟩
end Go.Proofs.Yteajjbfecpffeaa
