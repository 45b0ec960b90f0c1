/-
  Contracts and plain laws that the walk uses, several texts in one. The conditions are named ahead of each.
-/
import Derived.Test.YtjhbffndiaggmaaGreatDoorBL24
import Derived.Deep.RegionLaw
import Derived.Test.YtjhbffndiaggmaaGreatDoorBL22
import Derived.Test.YtjhbffndiaggmaaGreatDoorZLIsLogI

/-
  The program's copy of a log in new memory: the contract. The conditions are bounds on lengths.
-/
namespace Go.Proofs.YtjhbffndiaggmaaGreatDoor
open Go.RowKit Go.ChangeShapes Go.WideShapes
set_option linter.unusedVariables false
set_option linter.unusedSimpArgs false

set_option maxRecDepth 100000 in
set_option maxHeartbeats 4000000 in
theorem cloneLog_any (es : List Ent) (A : Option Addr) (c : Nat) {l h : Nat} (w : World) (hr0 : RdE w l h A es) (hl : eszL es ≤ 1048576) :
    Calls Tryz.prog 136 #[.slice A es.length c] w fun e w' => ∃ v rows, e = .returned v ∧ OwnR w' w.heap.size w'.heap.size 74 5 v rows ∧ EntsOwn w' w.heap.size w'.heap.size es rows ∧ Below w.heap.size w w' := by
  have hr := hr0.std
  clear hr0
  have hel := esz_len es
  go_enter Tryz.func136, Tryz.ntmps136
  go_wp2_with (at_make; refine wp_make_ents rfl _ _ rfl es.length rfl rfl (by omega) ?_; intro w1 hown1 hb1 hs1)
  go_loopw [4, 5, 11] (fun _ _ i wr => ∃ k : Nat, k ≤ es.length ∧ i = .int .i64 k ∧ OwnE wr w.heap.size wr.heap.size (.slice (some ⟨w.heap.size, 0, none⟩) es.length es.length) (tkE es k) ∧ Below w.heap.size w wr ∧ w.heap.size + 1 ≤ wr.heap.size) (fun _ _ i _ => es.length - (intOf i).toNat)
  case atStart => exact ⟨0, Nat.zero_le _, rfl, by rw [tkE_zero]; exact hown1, hb1, by omega⟩
  case round =>
    clear hown1 hb1 hs1
    obtain ⟨k, hk, rfl, hown, hbr, hsr⟩ := hrel
    by_cases hlt : k < es.length
    · obtain ⟨b, off, rfl, _, _, hc⟩ := (hr.below hbr (Nat.le_refl _)) (by omega)
      obtain ⟨A1, c1, A2, c2, x0, x1, x2, x3, x4, r1, r2⟩ := hc k hlt
      have hat := esz_at es k hlt
      have bk := (Bk.new wr 74 #[.int .i64 es[k].time, .int .i64 es[k].msg, .int .i64 es[k].part, .slice A1 es[k].seen.length c1, .slice A2 es[k].shown.length c2]).drew
      have r1d := (r1.alloc (.cells #[.int .i64 es[k].time, .int .i64 es[k].msg, .int .i64 es[k].part, .slice A1 es[k].seen.length c1, .slice A2 es[k].shown.length c2] 74)).drew
      have r2d := (r2.alloc (.cells #[.int .i64 es[k].time, .int .i64 es[k].msg, .int .i64 es[k].part, .slice A1 es[k].seen.length c1, .slice A2 es[k].shown.length c2] 74)).drew
      have hownd := (hown.alloc (.cells #[.int .i64 es[k].time, .int .i64 es[k].msg, .int .i64 es[k].part, .slice A1 es[k].seen.length c1, .slice A2 es[k].shown.length c2] 74)).drew
      have hBd := (hbr.alloc (by omega) (.cells #[.int .i64 es[k].time, .int .i64 es[k].msg, .int .i64 es[k].part, .slice A1 es[k].seen.length c1, .slice A2 es[k].shown.length c2] 74)).drew
      have hszd : ((wr.alloc (.cells #[.int .i64 es[k].time, .int .i64 es[k].msg, .int .i64 es[k].part, .slice A1 es[k].seen.length c1, .slice A2 es[k].shown.length c2] 74)).drew).heap.size = wr.heap.size + 1 := by simp
      have hszH := Lib.hid hszd
      clear hc r1 r2 hown hbr hszd
      go_wp2_with fail
      go_region_law (first
        | (go_simp; (go_at_call 85; ((with_reducible refine (Clone_any es[k].seen A1 c1 _ r1d (by omega)).mono ?_); rintro e w2 ⟨v2, rfl, o2, hb2⟩; (obtain ⟨A3, c3, rfl, _, _⟩ := o2.rd); (have bk2 := bk.st hb2); (have r2e := r2d.st hb2); (have y3 := bk2.cell 3); (have y4 := bk2.cell 4); (have g3 := bk2.frozen 3); (have g4 := bk2.frozen 4); (simp at y3 y4))))
        | (go_simp; (go_at_call 85; ((with_reducible refine (Clone_any es[k].shown A2 c2 _ r2e (by omega)).mono ?_); rintro e w3 ⟨v3, rfl, o3, hb3⟩; (obtain ⟨A4, c4, rfl, _, _⟩ := o3.rd); (have bk3 := bk2.st hb3); (have p3 := bk3.cell 3); (have p4 := bk3.cell 4); (have q3 := bk3.frozen 3); (have q4 := bk3.frozen 4); (simp at p3 p4)))))
      all_goals
        have s2 : wr.heap.size + 1 ≤ w2.heap.size := by have h0 := hb2.size; rw [hszH.out] at h0; exact h0
        have s3 := hb3.size
        rw [hszH.out] at o2
        obtain ⟨W, hW⟩ : ∃ W, W = (w3.setCell ⟨wr.heap.size, 3, none⟩ (.slice A3 es[k].seen.length c3)).setCell ⟨wr.heap.size, 4, none⟩ (.slice A4 es[k].shown.length c4) := ⟨_, rfl⟩
        have sW : W.heap.size = w3.heap.size := by rw [hW]; simp only [size_setCell]
        have bkW : Bk W wr.heap.size 74 #[.int .i64 es[k].time, .int .i64 es[k].msg, .int .i64 es[k].part, .slice A3 es[k].seen.length c3, .slice A4 es[k].shown.length c4] := by rw [hW]; simpa using (bk3.set_ 3 (.slice A3 es[k].seen.length c3)).set_ 4 (.slice A4 es[k].shown.length c4)
        have hoW : OwnE W w.heap.size wr.heap.size (.slice (some ⟨w.heap.size, 0, none⟩) es.length es.length) (tkE es k) := by rw [hW]; exact (((hownd.st hb2).st hb3).setCell (p := ⟨wr.heap.size, 3, none⟩) (.inr (Nat.le_refl _)) _).setCell (p := ⟨wr.heap.size, 4, none⟩) (.inr (Nat.le_refl _)) _
        have o2W : Own W (wr.heap.size + 1) w2.heap.size (.slice A3 es[k].seen.length c3) es[k].seen := by rw [hW]; exact ((o2.st hb3).setCell (p := ⟨wr.heap.size, 3, none⟩) (.inl (by dsimp only; omega)) _).setCell (p := ⟨wr.heap.size, 4, none⟩) (.inl (by dsimp only; omega)) _
        have o3W : Own W w2.heap.size w3.heap.size (.slice A4 es[k].shown.length c4) es[k].shown := by rw [hW]; exact (o3.setCell (p := ⟨wr.heap.size, 3, none⟩) (.inl (by dsimp only; omega)) _).setCell (p := ⟨wr.heap.size, 4, none⟩) (.inl (by dsimp only; omega)) _
        have hBW : Below w.heap.size w W := by rw [hW]; exact (((hBd.trans (hb2.mono (by rw [hszH.out]; omega))).trans (hb3.mono (by omega))).setCell (p := ⟨wr.heap.size, 3, none⟩) (by dsimp only; omega) _).setCell (p := ⟨wr.heap.size, 4, none⟩) (by dsimp only; omega) _
        have hst := hoW.stored (by rw [tkE_length _ _ hk]; exact hlt) es[k] _ _ (o2W.mono (show wr.heap.size ≤ wr.heap.size + 1 by omega) (show w2.heap.size ≤ w3.heap.size by omega)) (o3W.mono (show wr.heap.size ≤ w2.heap.size by omega) (Nat.le_refl _)) (Dj.of_lt o2W o3W (Nat.le_refl _)) (by omega) (by omega)
        rw [tkE_succ es k hlt] at hst
        have hstH := Lib.hid hst
        have hB3 := Lib.hid (setEnt_below (o := k * 5) hBW (Nat.le_refl w.heap.size) es[k] (.slice A3 es[k].seen.length c3) (.slice A4 es[k].shown.length c4))
        obtain ⟨_, _, _, ⟨y0, z0⟩, ⟨y1, z1⟩, ⟨y2, z2⟩, ⟨y3', z3⟩, ⟨y4', z4⟩, hfr⟩ := hoW.at_ (by rw [tkE_length _ _ hk]; exact hlt)
        have f0 := hfr (k * 5)
        have f1 := hfr (k * 5 + 1)
        have f2 := hfr (k * 5 + 2)
        have f3 := hfr (k * 5 + 3)
        have f4 := hfr (k * 5 + 4)
        have u0 := bkW.cell 0
        have u1 := bkW.cell 1
        have u2 := bkW.cell 2
        have u3 := bkW.cell 3
        have u4 := bkW.cell 4
        simp at u0 u1 u2 u3 u4
        rw [← hW]
        clear hst hoW hownd hBW hBd hb2 hb3 hfr o2 o3 o2W o3W bk bk2 bk3 bkW r1d r2d r2e g3 g4 q3 q4 y3 y4 p3 p4 x0 x1 x2 x3 x4 hat hW hszH
        go_wp2
        go_roundw
        case rel => exact ⟨k + 1, by omega, by go_num, by simp only [size_setCell, sW]; exact hstH.out, hB3.out, by simp only [size_setCell, sW]; omega⟩
        case measure => simp [intOf]; omega
    · obtain rfl : k = es.length := by omega
      rw [tkE_all] at hown
      obtain ⟨rows, h1, h2⟩ := hown.rws
      have h1H := Lib.hid h1
      have h2H := Lib.hid h2
      clear hown h1 h2
      go_wp2
      go_ret
      exact ⟨_, rows, rfl, h1H.out, h2H.out, hbr⟩
end Go.Proofs.YtjhbffndiaggmaaGreatDoor

/-
  Contracts of AppendEntry, in the reference and in the program. The conditions are bounds on lengths.
-/
namespace Go.Proofs.YtjhbffndiaggmaaGreatDoor
open Go.RowKit Go.ChangeShapes Go.WideShapes
set_option linter.unusedVariables false
set_option linter.unusedSimpArgs false

theorem lgGood_u (es : List Ent) (A : Option Addr) (c : Nat) {l h : Nat} (w : World) (hr : RdE w l h A es) (hl : eszL es ≤ 4194304) (hel : es.length ≤ 1048576) (v : Bool) (hv : logB es = v) :
    Calls Tryz.prog 128 #[.slice A es.length c] w fun e w' => e = .returned (.bool v) ∧ Below w.heap.size w w' := by
  subst hv
  exact lgGood_w es A c w hr hl hel
set_option maxRecDepth 100000 in
theorem lgIf_v (es : List Ent) (A : Option Addr) (n c : Nat) {l h : Nat} (w : World) (hr0 : RdE w l h A es) (hn : n = es.length) (hl : eszL es ≤ 4194304) (hel : es.length ≤ 1048576) (v : Bool) (hv : logB es = v) (R : List Ent) (hR : R = if v = true then es else []) :
    Calls Tryz.prog 137 #[.slice A n c] w fun e w' => ∃ A' c', e = .returned (.tuple #[.slice A' R.length c', .bool v]) ∧ OwnE w' w.heap.size w'.heap.size (.slice A' R.length c') R ∧ Below w.heap.size w w' := by
  subst hn
  have hr := hr0.std
  clear hr0
  cases v with
  | false =>
    obtain rfl : R = [] := hR
    go_enter Tryz.func137, Tryz.ntmps137
    go_wp2_with fail
    (with_reducible refine (lgGood_u es A c _ hr hl hel _ hv).mono ?_)
    rintro e w1 ⟨rfl, hb1⟩
    go_wp2
    go_ret2
    exact ⟨none, 0, rfl, OwnE.nil, hb1⟩
  | true =>
    obtain rfl : R = es := hR
    have hsz := log_esz hv
    go_enter Tryz.func137, Tryz.ntmps137
    go_wp2_with fail
    (with_reducible refine (lgGood_u R A c _ hr hl hel _ hv).mono ?_)
    rintro e w1 ⟨rfl, hb1⟩
    go_wp2_with fail
    (with_reducible refine (lgOwn_any R A c _ (hr.st hb1) (by omega)).mono ?_)
    rintro e w2 ⟨v2, rows, rfl, o2, e2, hb2⟩
    have hO := EntsOwn.ownE o2 e2
    obtain ⟨A2, c2, rfl, -, -⟩ := hO.rd
    have hB := hb1.trans (hb2.mono hb1.size)
    have hOH := Lib.hid (hO.mono hb1.size (Nat.le_refl _))
    clear o2 e2 hO hb2
    go_wp2
    go_ret2
    exact ⟨A2, c2, rfl, hOH.out, hB⟩
theorem ae_size {es : List Ent} {t m p : Int} {y z : List Int} : eszL (aeL es t m p y z) ≤ 1048576 := by
  unfold aeL
  split
  · rename_i h
    simp only [aeB, Bool.and_eq_true] at h
    have := log_esz h.2
    omega
  · rw [esz_nil]; omega
set_option maxRecDepth 100000 in
set_option maxHeartbeats 4000000 in
theorem sAppendEntry_c (es : List Ent) (A : Option Addr) (c : Nat) (t m p : Int) (y : List Int) (A1 : Option Addr) (c1 : Nat) (z : List Int) (A2 : Option Addr) (c2 : Nat) {l h l1 h1 l2 h2 : Nat} (w : World) (hr0 : RdE w l h A es) (hy0 : Rd w l1 h1 A1 y) (hz0 : Rd w l2 h2 A2 z)
    (hl : eszL es ≤ 1048576) (hly : y.length ≤ 1048576) (hlz : z.length ≤ 1048576) :
    Calls Tryz.prog 63 #[.slice A es.length c, .agg #[.int .i64 t, .int .i64 m, .int .i64 p, .slice A1 y.length c1, .slice A2 z.length c2]] w fun e w' => ∃ A c, e = .returned (.tuple #[.slice A (aeL es t m p y z).length c, .bool (aeB es t m p y z)]) ∧ RdE w' 0 w'.heap.size A (aeL es t m p y z) ∧ (aeL es t m p y z).length ≤ c ∧ eszL (aeL es t m p y z) ≤ 1048576 ∧ Below w.heap.size w w' := by
  have hr := hr0.std
  have hy := hy0.std
  have hz := hz0.std
  clear hr0 hy0 hz0
  have hsz := Lib.hid (ae_size (es := es) (t := t) (m := m) (p := p) (y := y) (z := z))
  obtain ⟨EB, hEB⟩ : ∃ EB, EB = Obj.cells #[.int .i64 t, .int .i64 m, .int .i64 p, .slice A1 y.length c1, .slice A2 z.length c2] 74 (0, 0) := ⟨_, rfl⟩
  cases q1 : logB es with
  | false =>
    have hq : aeB es t m p y z = false := by simp [aeB, q1]
    rw [aeL_no hq, hq]
    clear hq hsz
    go_enter Tryz.func63, Tryz.ntmps63
    go_wp2_with fail
    (with_reducible refine (lgGood_u es A c _ (hr.alloc _) (by omega) (by have := esz_len es; omega) _ q1).mono ?_)
    rintro e w1 ⟨rfl, hb1⟩
    have hB := ((Below.refl w.heap.size w).alloc (Nat.le_refl _) _).trans (hb1.mono (by simp))
    go_wp2
    go_ret2
    exact ⟨none, 0, rfl, RdE.nil, Nat.le_refl _, by rw [esz_nil]; omega, hB⟩
  | true =>
    have hel := log_len q1
    have hes := log_esz q1
    obtain ⟨v, hv⟩ : ∃ v, logB (es ++ [⟨t, m, p, y, z⟩]) = v := ⟨_, rfl⟩
    have haeB : aeB es t m p y z = v := by rw [aeB, q1, hv]; rfl
    have haeL : aeL es t m p y z = if v = true then es ++ [⟨t, m, p, y, z⟩] else [] := by unfold aeL; rw [haeB]
    rw [haeB]
    obtain ⟨R, hR⟩ : ∃ R, R = aeL es t m p y z := ⟨_, rfl⟩
    rw [← hR] at haeL hsz ⊢
    have hvH := Lib.hid hv
    have haeLH := Lib.hid haeL
    clear hv haeB haeL hR
    go_enter Tryz.func63, Tryz.ntmps63
    go_wp2_with fail
    rw [← hEB]
    (with_reducible refine (lgGood_u es A c _ (hr.alloc _) (by omega) (by omega) _ q1).mono ?_)
    rintro e w1 ⟨rfl, hb1⟩
    have hs0 : (w.alloc EB).heap.size = w.heap.size + 1 := by simp
    have hB := ((Below.refl w.heap.size w).alloc (Nat.le_refl _) EB).trans (hb1.mono (by simp))
    have hs1 : w.heap.size + 1 ≤ w1.heap.size := by have := hb1.size; omega
    have hr1 := (hr.alloc EB).st hb1
    have hy1 := (hy.alloc EB).st hb1
    have hz1 := (hz.alloc EB).st hb1
    have bk : Bk w1 w.heap.size 74 #[.int .i64 t, .int .i64 m, .int .i64 p, .slice A1 y.length c1, .slice A2 z.length c2] := by
      have h5 : Bk (w.alloc EB) w.heap.size 74 #[.int .i64 t, .int .i64 m, .int .i64 p, .slice A1 y.length c1, .slice A2 z.length c2] := by rw [hEB]; exact Bk.new w _ _
      exact h5.st hb1
    have y0 := bk.cell 0
    have y1 := bk.cell 1
    have y2 := bk.cell 2
    have y3 := bk.cell 3
    have y4 := bk.cell 4
    simp at y0 y1 y2 y3 y4
    clear q1 hb1 hs0 bk hr hy hz
    have hrow : EntRow w1 0 w.heap.size ⟨t, m, p, y, z⟩ [.int .i64 t, .int .i64 m, .int .i64 p, .slice A1 y.length c1, .slice A2 z.length c2] := ⟨A1, c1, A2, c2, rfl, hy1, hz1⟩
    have hsum : eszL (es ++ [⟨t, m, p, y, z⟩]) ≤ 4194304 := by rw [esz_append, esz_one]; show eszL es + (1 + (y.length + z.length)) ≤ _; omega
    have hsumH := Lib.hid hsum
    have hB0 : Below w1.heap.size w1 w1.drew := (Below.refl w1.heap.size w1).drew
    clear hy1 hz1 hsum
    go_wp2_with fail
    go_region_held3 (fun w' => w'.cell? ⟨w.heap.size, 0, none⟩ = some (.int .i64 t) ∧ w'.cell? ⟨w.heap.size, 1, none⟩ = some (.int .i64 m) ∧ w'.cell? ⟨w.heap.size, 2, none⟩ = some (.int .i64 p) ∧ w'.cell? ⟨w.heap.size, 3, none⟩ = some (.slice A1 y.length c1) ∧ w'.cell? ⟨w.heap.size, 4, none⟩ = some (.slice A2 z.length c2))
      (((try go_split_ands); (try dsimp only); (repeat' apply And.intro) <;> (first | assumption | ((refine (hc4 _ _ (by omega)).trans ?_); assumption) | ((refine (Below.cell (B := w1.heap.size) (w := w1) ?_ (by dsimp only; omega)).trans ?_) <;> first | assumption | (repeat first | exact Below.refl _ _ | exact hB2 | exact hB3 | refine Below.drew ?_ | refine Below.alloc ?_ (by first | omega | (simp <;> omega)) _)))))
      (first

        | (refine step_append_ents (v := .slice (some ⟨_, 0, none⟩) 0 0) rfl (.tmp 9) (.tmp 10) rfl rfl (OwnR.zero (lo := w1.heap.size) (hi := w1.heap.size + 2) (by first | exact Bk.new _ _ _ | exact Bk.new2 _ _ _ _ | exact (Bk.new _ _ _).alloc _) (by omega) (by omega)) rfl (by first | exact hr1.drew.alloc _ | exact (hr1.drew.alloc _).alloc _) (by simp; omega) (by simp <;> omega) ?_; intro v2 w2 rows2 hrr2 ho2 hg2 hb2 hat2;
            (have hE2 := hrr2.below hb2 (by omega)); (have hB2 : Below w1.heap.size w1 w2 := by first | exact (hB0.alloc (Nat.le_refl _) _).trans hb2 | exact ((hB0.alloc (Nat.le_refl _) _).alloc (by simp) _).trans hb2); (have hc2 := (bcell hB2).1); (have s2 := hB2.size); rw [List.nil_append] at ho2)
        | (refine step_append_one rfl (.tmp 11) (.tmp 13) rfl rfl (by first | exact ho2.alloc _ | exact ho2) rfl (row := [.int .i64 t, .int .i64 m, .int .i64 p, .slice A1 y.length c1, .slice A2 z.length c2]) (bk_cells (by first | exact Bk.new _ _ _ | exact (hg2.block _ (by simp) (by simp [Value.ownBlock])).trans (Bk.new2 _ _ _ _) | exact (hg2.block _ (by simp <;> omega) (by simp [Value.ownBlock])).trans ((Bk.new _ _ _).alloc _))) rfl (by simp [Value.oneCell']) (by rw [hrr2.1]; omega) (by first | exact s2 | (simp <;> omega)) ?_; intro v3 w3 ho3 hg3 hb3 hat3;
            (have hB3 : Below w1.heap.size w1 w3 := by first | exact hB2.trans hb3 | exact (hB2.alloc s2 _).trans hb3); (have hE3 := (hE2.keep (w' := w3) (fun b o _ h2 _ => (hB3.cell (p := ⟨b, o, none⟩) (by show b < w1.heap.size; omega)).trans (hB2.cell (p := ⟨b, o, none⟩) (by show b < w1.heap.size; omega)).symm)).snoc (hrow.keep (w' := w3) (fun b o _ h2 _ => hB3.cell (p := ⟨b, o, none⟩) (by show b < w1.heap.size; omega)))); (have hc3 := (bcell hB3).1); (obtain ⟨A3, c3, rfl, -, -, -, -⟩ := ho3.cells); (have hrd := ho3.rdE hE3))
        | (go_at_call 137; ((with_reducible refine (lgIf_v (es ++ [⟨t, m, p, y, z⟩]) A3 _ c3 _ hrd.1 (by simp) hsumH.out (by simp; omega) _ hvH.out R haeLH.out).mono ?_); rintro e w4 ⟨A4, c4, rfl, ho4, hb4⟩; (have hB4 := Lib.hid (hB3.trans (hb4.mono hB3.size))); (have ho4H := Lib.hid ho4); (have hc4 := (bcell hB4.out).1))))
    all_goals
      have hBH := Lib.hid (hB.trans (hB4.out.mono (by omega)))
      have hrd4 := Lib.hid (ho4H.out.rd'.std)
      clear hB0 hB2 hB3 hb2 hb3 hb4 ho2 ho3 ho4 hE2 hE3 hrd hrr2 hg2 hg3 hc2 hc3 hc4 hat2 hat3 hrow hr1 hB y0 y1 y2 y3 y4
      go_wp2
      go_ret2
      exact ⟨A4, c4, rfl, hrd4.out, ho4H.out.cap, hsz.out, hBH.out⟩
theorem sAppendEntry_any (es : List Ent) (A : Option Addr) (c : Nat) (t m p : Int) (y : List Int) (A1 : Option Addr) (c1 : Nat) (z : List Int) (A2 : Option Addr) (c2 : Nat) {l h l1 h1 l2 h2 : Nat} (w : World) (hr0 : RdE w l h A es) (hy0 : Rd w l1 h1 A1 y) (hz0 : Rd w l2 h2 A2 z)
    (hl : eszL es ≤ 1048576) (hly : y.length ≤ 1048576) (hlz : z.length ≤ 1048576) :
    Calls Tryz.prog 63 #[.slice A es.length c, .agg #[.int .i64 t, .int .i64 m, .int .i64 p, .slice A1 y.length c1, .slice A2 z.length c2]] w fun e w' => ∃ A c, e = .returned (.tuple #[.slice A (aeL es t m p y z).length c, .bool (aeB es t m p y z)]) ∧ RdE w' 0 w'.heap.size A (aeL es t m p y z) ∧ eszL (aeL es t m p y z) ≤ 1048576 ∧ Below w.heap.size w w' :=
  (sAppendEntry_c es A c t m p y A1 c1 z A2 c2 w hr0 hy0 hz0 hl hly hlz).mono fun e w' ⟨A, c, he, h1, _, h2, h3⟩ => ⟨A, c, he, h1, h2, h3⟩
theorem cloneLog_n (es : List Ent) (A : Option Addr) (n c : Nat) {l h : Nat} (w : World) (hr0 : RdE w l h A es) (hn : n = es.length) (hl : eszL es ≤ 1048576) :
    Calls Tryz.prog 136 #[.slice A n c] w fun e w' => ∃ v rows, e = .returned v ∧ OwnR w' w.heap.size w'.heap.size 74 5 v rows ∧ EntsOwn w' w.heap.size w'.heap.size es rows ∧ Below w.heap.size w w' := by
  subst hn; exact cloneLog_any es A c w hr0 hl
set_option maxRecDepth 100000 in
set_option maxHeartbeats 4000000 in
theorem iAppendEntry_any (es : List Ent) (A : Option Addr) (c : Nat) (t m p : Int) (y : List Int) (A1 : Option Addr) (c1 : Nat) (z : List Int) (A2 : Option Addr) (c2 : Nat) {l h l1 h1 l2 h2 : Nat} (w : World) (hr0 : RdE w l h A es) (hy0 : Rd w l1 h1 A1 y) (hz0 : Rd w l2 h2 A2 z)
    (hl : eszL es ≤ 1048576) (hly : y.length ≤ 1048576) (hlz : z.length ≤ 1048576) (hca : es.length ≤ c) :
    Calls Tryz.prog 62 #[.slice A es.length c, .agg #[.int .i64 t, .int .i64 m, .int .i64 p, .slice A1 y.length c1, .slice A2 z.length c2]] w fun e w' => ∃ A c, e = .returned (.tuple #[.slice A (aeL es t m p y z).length c, .bool (aeB es t m p y z)]) ∧ OwnE w' w.heap.size w'.heap.size (.slice A (aeL es t m p y z).length c) (aeL es t m p y z) ∧ eszL (aeL es t m p y z) ≤ 1048576 ∧ Below w.heap.size w w' := by
  have hr := hr0.std
  have hy := hy0.std
  have hz := hz0.std
  clear hr0 hy0 hz0
  have hsz := Lib.hid (ae_size (es := es) (t := t) (m := m) (p := p) (y := y) (z := z))
  obtain ⟨EB, hEB⟩ : ∃ EB, EB = Obj.cells #[.int .i64 t, .int .i64 m, .int .i64 p, .slice A1 y.length c1, .slice A2 z.length c2] 74 (0, 0) := ⟨_, rfl⟩
  have hs0 : (w.alloc EB).heap.size = w.heap.size + 1 := by simp
  have bk0 : Bk (w.alloc EB) w.heap.size 74 #[.int .i64 t, .int .i64 m, .int .i64 p, .slice A1 y.length c1, .slice A2 z.length c2] := by rw [hEB]; exact Bk.new w _ _
  have hra := hr.alloc EB
  have hya := hy.alloc EB
  have hza := hz.alloc EB
  have hBa := (Below.refl w.heap.size w).alloc (Nat.le_refl _) EB
  clear hr hy hz
  cases q1 : logB es with
  | false =>
    have hq : aeB es t m p y z = false := by simp [aeB, q1]
    rw [aeL_no hq, hq]
    clear hq hsz bk0
    go_enter Tryz.func62, Tryz.ntmps62
    go_wp2_with fail
    rw [← hEB]
    (with_reducible refine (iIsLog_v es A c _ hra hl hca _ q1).mono ?_)
    rintro e w1 ⟨rfl, hb1⟩
    have hB := hBa.trans (hb1.mono (by omega))
    go_wp2
    go_ret2
    exact ⟨none, 0, rfl, OwnE.nil, by rw [esz_nil]; omega, hB⟩
  | true =>
    cases q2 : enB t m p y z with
    | false =>
      have hq : aeB es t m p y z = false := aeB_en q2
      rw [aeL_no hq, hq]
      clear hq hsz
      go_enter Tryz.func62, Tryz.ntmps62
      go_wp2_with fail
      rw [← hEB]
      (with_reducible refine (iIsLog_v es A c _ hra hl hca _ q1).mono ?_)
      rintro e w1 ⟨rfl, hb1⟩
      have hB := hBa.trans (hb1.mono (by omega))
      have hy1 := hya.st hb1
      have hz1 := hza.st hb1
      have bk := bk0.st hb1
      have y0 := bk.cell 0
      have y1 := bk.cell 1
      have y2 := bk.cell 2
      have y3 := bk.cell 3
      have y4 := bk.cell 4
      simp at y0 y1 y2 y3 y4
      have hsB := hB.size
      clear q1 hb1 bk bk0 hra hya hza
      go_wp2_with fail
      (with_reducible refine (iIsEntry_v t m p y A1 c1 z A2 c2 _ hy1 hz1 (by omega) (by omega) _ q2).mono ?_)
      rintro e w2 ⟨rfl, hb2⟩
      have hB2 := hB.trans (hb2.mono hsB)
      go_wp2
      go_ret2
      exact ⟨none, 0, rfl, OwnE.nil, by rw [esz_nil]; omega, hB2⟩
    | true =>
      have hel := log_len q1
      have hes := log_esz q1
      have hly2 : y.length ≤ 1000 ∧ z.length ≤ 1000 := by
        simp only [enB, Bool.and_eq_true] at q2
        exact ⟨sg_len q2.2.2.2.1, sg_len q2.2.2.2.2⟩
      obtain ⟨v, hv⟩ : ∃ v, logB (es ++ [⟨t, m, p, y, z⟩]) = v := ⟨_, rfl⟩
      have haeB : aeB es t m p y z = v := by rw [aeB, q1, hv]; rfl
      have haeL : aeL es t m p y z = if v = true then es ++ [⟨t, m, p, y, z⟩] else [] := by unfold aeL; rw [haeB]
      rw [haeB]
      obtain ⟨R, hR⟩ : ∃ R, R = aeL es t m p y z := ⟨_, rfl⟩
      rw [← hR] at haeL hsz ⊢
      have hvH := Lib.hid hv
      have haeLH := Lib.hid haeL
      clear hv haeB haeL hR
      go_enter Tryz.func62, Tryz.ntmps62
      go_wp2_with fail
      rw [← hEB]
      (with_reducible refine (iIsLog_v es A c _ hra hl hca _ q1).mono ?_)
      rintro e w1 ⟨rfl, hb1⟩
      have hB := hBa.trans (hb1.mono (by omega))
      have hy1 := hya.st hb1
      have hz1 := hza.st hb1
      have hr1 := hra.st hb1
      have bk := bk0.st hb1
      have y0 := bk.cell 0
      have y1 := bk.cell 1
      have y2 := bk.cell 2
      have y3 := bk.cell 3
      have y4 := bk.cell 4
      simp at y0 y1 y2 y3 y4
      have hsB : w.heap.size + 1 ≤ w1.heap.size := by have := hb1.size; omega
      clear q1 hb1 bk bk0 hra hya hza hBa hs0
      go_wp2_with fail
      (with_reducible refine (iIsEntry_v t m p y A1 c1 z A2 c2 _ hy1 hz1 (by omega) (by omega) _ q2).mono ?_)
      rintro e w2 ⟨rfl, hb2⟩
      have hB2 := hB.trans (hb2.mono (by omega))
      have s2 := hb2.size
      have hr2 := hr1.st hb2
      have hy2 := hy1.st hb2
      have hz2 := hz1.st hb2
      have k2 := (bcell hb2).1
      have u0 := (k2 _ _ (by omega)).trans y0
      have u1 := (k2 _ _ (by omega)).trans y1
      have u2 := (k2 _ _ (by omega)).trans y2
      have u3 := (k2 _ _ (by omega)).trans y3
      have u4 := (k2 _ _ (by omega)).trans y4
      have hsum : eszL (es ++ [⟨t, m, p, y, z⟩]) ≤ 1048576 := by rw [esz_append, esz_one]; show eszL es + (1 + (y.length + z.length)) ≤ _; omega
      have hsum1 : eszL [(⟨t, m, p, y, z⟩ : Ent)] ≤ 1048576 := by rw [esz_one]; show 1 + (y.length + z.length) ≤ _; omega
      have hsumH := Lib.hid hsum
      have hsum1H := Lib.hid hsum1
      have hB0 : Below w2.heap.size w2 w2 := Below.refl _ _
      clear y0 y1 y2 y3 y4 k2 hb2 hy1 hz1 hr1 hsum hsum1 q2 hB
      go_wp2_with fail
      go_region_held3 (fun w' => w'.cell? ⟨w.heap.size, 0, none⟩ = some (.int .i64 t) ∧ w'.cell? ⟨w.heap.size, 1, none⟩ = some (.int .i64 m) ∧ w'.cell? ⟨w.heap.size, 2, none⟩ = some (.int .i64 p) ∧ w'.cell? ⟨w.heap.size, 3, none⟩ = some (.slice A1 y.length c1) ∧ w'.cell? ⟨w.heap.size, 4, none⟩ = some (.slice A2 z.length c2))
        (((try go_split_ands); (try dsimp only); (repeat' apply And.intro) <;> (first | assumption | ((refine (Below.cell (B := w2.heap.size) (w := w2) ?_ (by dsimp only; omega)).trans ?_) <;> first | assumption | (repeat first | exact Below.refl _ _ | exact hBz.out | exact hBy.out | exact hBx.out | exact hBv.out | refine Below.drew ?_ | refine Below.alloc ?_ (by first | omega | (simp <;> omega)) _)))))
        (first
          | (go_at_call 136; ((with_reducible refine (cloneLog_any es A c _ (l := 0) (h := w.heap.size) (by first | exact hr2 | exact hr2.drew | exact (hr2.alloc _).drew | exact hr2.below hBv.out (by omega)) hl).mono ?_); rintro e w3 ⟨v3, rows3, rfl, ho3, he3, hb3⟩);
              (have hBx : Hid (Below w2.heap.size w2 w3) := Lib.hid (by first | exact hB0.drew.trans hb3 | exact ((hB0.alloc (Nat.le_refl _) _).drew).trans (hb3.mono (by simp)) | exact hBv.out.trans (hb3.mono hBv.out.size))); (have s3 := hBx.out.size))
          | (go_at_call 136; ((with_reducible refine (cloneLog_n [⟨t, m, p, y, z⟩] (some ⟨_, 0, none⟩) 1 1 _ (ent_block (g := _) (by first | exact Bk.new _ _ _ | exact (Bk.new _ _ _).drew | exact ((Bk.new _ _ _).drew).st hb3) (by first | exact (hy2.alloc _).drew | exact (hy2.below hBx.out (by omega)).alloc _ | exact hy2.below hBx.out (by omega)) (by first | exact (hz2.alloc _).drew | exact (hz2.below hBx.out (by omega)).alloc _ | exact hz2.below hBx.out (by omega))) rfl hsum1H.out).mono ?_); rintro e w4 ⟨v4, rows4, rfl, ho4, he4, hb4⟩);
              (have hBv : Hid (Below w2.heap.size w2 w4) := Lib.hid (by first | exact ((hB0.alloc (Nat.le_refl _) _).drew).trans (hb4.mono (by simp)) | exact hBx.out.trans (hb4.mono hBx.out.size) | exact (hBx.out.alloc hBx.out.size _).trans (hb4.mono (by have := hBx.out.size; simp; omega)))); (have s4 := hBv.out.size);
              (obtain ⟨r4, rfl⟩ : ∃ r, rows4 = [r] := List.length_eq_one_iff.1 he4.len); (obtain ⟨A4, cc4, rfl, -, -, -, hx4⟩ := ho4.cells); (obtain ⟨g4, rfl, -, -, hg4, -, hc4⟩ := hx4 (by simp)); (have he4r := he4.ent 0 (by simp) (by simp)); (simp only [List.getElem_cons_zero] at he4r); (have hcl4 : ∀ i, i < 5 → w4.cell? ⟨g4, i, none⟩ = r4[i]? := fun i hi => by have := hc4 0 (by simp) i hi; simpa using this); (clear hx4 hc4))
          | (refine step_append_one rfl (.tmp 15) (.tmp 18) rfl (v := v3) rfl (lo := w2.heap.size) (by first | exact (ho3.st hb4).mono (by simp) (Nat.le_refl _) | exact ((ho3.alloc _).st hb4).mono (by simp) (Nat.le_refl _) | exact ho3.mono hBv.out.size (Nat.le_refl _)) rfl (by first | exact hcl4 | exact fun i hi => (hb3.cell (p := ⟨g4, i, none⟩) hg4).trans (hcl4 i hi)) he4r.len (he4r.row.one) (by rw [he3.len]; omega) (by first | exact hBv.out.size | exact hBx.out.size) ?_; intro v5 w5 ho5 hg5 hb5 hat5;
              (have hdj : ∀ s ∈ rows3, DjR s r4 := fun s hs => by (obtain ⟨e', he'⟩ := he3.mem hs); first | exact he'.dj_lt he4r (by first | exact Nat.le_refl _ | (simp <;> omega)) | exact (he4r.dj_lt he' (by first | exact Nat.le_refl _ | (simp <;> omega))).sy);
              (have hBy : Hid (Below w2.heap.size w2 w5) := Lib.hid (by first | exact hBv.out.trans hb5 | exact hBx.out.trans hb5)); (have s5 := hBy.out.size); (have t3 := hb3.size); (have t4 := hb4.size); (have t5 := hb5.size); (try simp at t3); (try simp at t4);
              (have he5 : EntsOwn w5 w2.heap.size w5.heap.size (es ++ [⟨t, m, p, y, z⟩]) (rows3 ++ [r4]) := by first
                | exact ents_app ((he3.alloc _).st hb4) he4r hdj (KeepI.grown ((ho3.alloc _).st hb4) hg5 (by decide)) (by first | omega | (simp <;> omega)) (by first | omega | (simp <;> omega)) (by omega) (by omega)
                | exact ents_app (he3.st hb4) he4r hdj (KeepI.grown (ho3.st hb4) hg5 (by decide)) (by first | omega | (simp <;> omega)) (by first | omega | (simp <;> omega)) (by omega) (by omega)
                | exact ents_app he3 (he4r.keep (fun k _ _ h3 => hb3.block k h3)) hdj (KeepI.grown ho3 hg5 (by decide)) (by first | omega | (simp <;> omega)) (by first | omega | (simp <;> omega)) (by omega) (by omega));
              (have hO5 := EntsOwn.ownE ho5 he5); (obtain ⟨A5, c5, rfl, hcap5, -, -, -⟩ := ho5.cells); (have hrd5 := ho5.rdE he5.rws); (have hln5 := Lib.hid hrd5.2.1); (have hcp5 : es.length + 1 ≤ c5 := by have h1 := he3.len; simp at hcap5; omega))
          | (go_at_call 133; ((with_reducible refine (checkedLog_v (es ++ [⟨t, m, p, y, z⟩]) A5 _ c5 _ hrd5.1 (by simp) hsumH.out hcp5 _ hvH.out R haeLH.out).mono ?_); rintro e w6 ⟨A6, c6, rfl, hcs, hb6⟩; (have hBz : Hid (Below w2.heap.size w2 w6) := Lib.hid (hBy.out.trans (hb6.mono s5)))))
          | fail)
      all_goals
        have hBH := Lib.hid (hB2.trans (hBz.out.mono (by omega)))
        have hO6 := Lib.hid (hO5.st hb6)
        have hsH := Lib.hid (show w.heap.size ≤ w2.heap.size ∧ w5.heap.size ≤ w6.heap.size from ⟨by omega, hb6.size⟩)
        clear hO5 hb6 hBz hb3 hb4 hb5 ho3 ho4 ho5 he3 he4 he5 he4r hcl4 hdj hat5 hg5 hrd5 hcap5 hcp5 hr2 hy2 hz2 u0 u1 u2 u3 u4 hB2 hB0
        go_wp2
        go_ret2
        refine ⟨A6, c6, rfl, ?_, hsz.out, hBH.out⟩
        have hR := haeLH.out
        rcases hcs.out with ⟨hv, hA, hc⟩ | ⟨hv, hA, hc⟩
        · rw [if_pos hv] at hR
          rw [hA, hc, hR]
          have := hO6.out.mono hsH.out.1 hsH.out.2
          rwa [hln5.out] at this
        · rw [if_neg (by simp [hv])] at hR
          rw [hA, hc, hR]
          exact OwnE.nil
end Go.Proofs.YtjhbffndiaggmaaGreatDoor

/-
  Contract of JoinLogs in the reference. The conditions are bounds on lengths.
-/
namespace Go.Proofs.YtjhbffndiaggmaaGreatDoor
open Go.RowKit Go.ChangeShapes Go.WideShapes
set_option linter.unusedVariables false
set_option linter.unusedSimpArgs false

section
variable {ops : Array Oper} {Q : Exit → Act → World → Prop} {o : Oper} {rest : List Oper} {a : Act} {w : World} {lo hi : Nat} {v : Value} {rows : List (List Value)} {es : List Ent} {A : Option Addr} {n c : Nat}
/-- 'append(v, l...)' with the entries that l reads as -/
theorem wp_append_ents (hgd : o.guard = none) (s x : Operand) {l2 h2 : Nat} (ho : o.op = .call { callee := .builtin .append, args := #[s, x], argTypes := #[65, 65] })
    (hs : a.eval s = v) (hown : OwnR w lo hi 74 5 v rows) (hx : a.eval x = .slice A n c) (hn : n = es.length) (hr : RdE w l2 h2 A es)
    (hlen : rows.length + es.length ≤ 1073741824) (hlo : lo ≤ w.heap.size)
    (h : ∀ v' w' rows2, EntRows w l2 h2 es rows2 → OwnR w' lo w'.heap.size 74 5 v' (rows ++ rows2) → w.grownBy w' v.ownBlock → Below lo w w' → wpList Tryz.prog ops Q rest (a.put o.dst v') w') : wpList Tryz.prog ops Q (o :: rest) a w := by
  subst hn
  refine wpList_plain hgd fun K hK => ?_
  obtain ⟨v', w', rows2, hrun, h1, h2, h3, h4, h5⟩ := run_append_ents o.type (c := c) hown hr hlen hlo
  unfold Oper.wp execOp
  simp only [ho, resolve, invoke, builtin, Sem.run_bind, Sem.run_pure, Result.andThen_ok, List.map_toArray, List.map_cons, List.map_nil, hs, hx, hrun]
  exact hK _ _ (h v' w' rows2 h1 h2 h3 h4)
end
theorem RdE.drop {w : World} {lo hi b off : Nat} {es : List Ent} (h : RdE w lo hi (some ⟨b, off, none⟩) es) (i : Nat) : RdE w lo hi (some ⟨b, off + i * 5, none⟩) (es.drop i) := fun hp => by
  rw [List.length_drop] at hp
  obtain ⟨b', off', e, h1, h2, h3⟩ := h (by omega)
  injection e with e
  injection e with e1 e2 e3
  subst e1 e2
  refine ⟨b, off + i * 5, rfl, h1, h2, fun j hj => ?_⟩
  rw [List.length_drop] at hj
  have h4 := h3 (i + j) (by omega)
  rw [List.getElem_drop]
  have e : off + i * 5 + j * 5 = off + (i + j) * 5 := by omega
  rw [e]
  exact h4
theorem RdE.drop0 {w : World} {lo hi : Nat} {A : Option Addr} {es : List Ent} (i : Nat) (h : es.length = 0) : RdE w lo hi A (es.drop i) := fun hp => by
  rw [List.length_drop] at hp
  omega

theorem EntRow.below' {w w' : World} {lo hi B : Nat} {e : Ent} {r : List Value} (h : EntRow w lo hi e r) (hb : Below B w w') (hB : hi ≤ B) : EntRow w' lo hi e r := h.keep fun b o _ h2 _ => hb.cell (p := ⟨b, o, none⟩) (by show b < B; omega)
set_option maxRecDepth 100000 in
set_option maxHeartbeats 8000000 in
theorem sJoinLogs_any (es : List Ent) (A : Option Addr) (c : Nat) (fs : List Ent) (B : Option Addr) (d : Nat) {l h l' h' : Nat} (w : World) (hr0 : RdE w l h A es) (hs0 : RdE w l' h' B fs) (hl : eszL es ≤ 1048576) (hl' : eszL fs ≤ 1048576) (hca : es.length ≤ c) (hcb : fs.length ≤ d) :
    Calls Tryz.prog 66 #[.slice A es.length c, .slice B fs.length d] w fun e w' => ∃ A c, e = .returned (.tuple #[.slice A (jlL es fs).length c, .bool (jlB es fs)]) ∧ RdE w' 0 w'.heap.size A (jlL es fs) ∧ eszL (jlL es fs) ≤ 1048576 ∧ Below w.heap.size w w' := by
  have hr := hr0.std
  have hs := hs0.std
  clear hr0 hs0
  have hsz := Lib.hid (jl_esz (a := es) (b := fs))
  cases q1 : logB es with
  | false =>
    have hq := jlB_a (b := fs) q1
    rw [jlL_no hq, hq]
    clear hq hsz
    go_enter Tryz.func66, Tryz.ntmps66
    go_wp2_with fail
    (with_reducible refine (lgGood_u es A c _ hr (by omega) (by have := esz_len es; omega) _ q1).mono ?_)
    rintro e w1 ⟨rfl, hb1⟩
    have hBH := Lib.hid hb1
    clear hb1 hr hs
    go_wp2_with fail
    go_ret2
    exact ⟨none, 0, rfl, RdE.nil, by rw [esz_nil]; omega, hBH.out⟩
  | true =>
    cases q2 : logB fs with
    | false =>
      have hq := jlB_b (a := es) q2
      rw [jlL_no hq, hq]
      clear hq hsz
      go_enter Tryz.func66, Tryz.ntmps66
      go_wp2_with fail
      (with_reducible refine (lgGood_u es A c _ hr (by omega) (by have := esz_len es; omega) _ q1).mono ?_)
      rintro e w1 ⟨rfl, hb1⟩
      have hs1 := hs.st hb1
      have hBH := Lib.hid hb1
      clear hb1 hr hs q1
      go_wp2_with fail
      (with_reducible refine (lgGood_u fs B d _ hs1 (by omega) (by have := esz_len fs; omega) _ q2).mono ?_)
      rintro e w2 ⟨rfl, hb2⟩
      have hB2 := Lib.hid (hBH.out.trans (hb2.mono hBH.out.size))
      clear hb2 hs1 q2
      go_wp2_with fail
      go_ret2
      exact ⟨none, 0, rfl, RdE.nil, by rw [esz_nil]; omega, hB2.out⟩
    | true =>
      have hle := log_len q1
      have hlf := log_len q2
      have hze := log_esz q1
      have hzf := log_esz q2
      obtain ⟨v, hv⟩ : ∃ v, logB (jM es fs) = v := ⟨_, rfl⟩
      have hjB := jlB_v q1 q2 hv
      have hjL := jlL_v hjB
      rw [hjB]
      obtain ⟨R, hR⟩ : ∃ R, R = jlL es fs := ⟨_, rfl⟩
      rw [← hR] at hjL hsz ⊢
      have hvH := Lib.hid hv
      have hjH := Lib.hid hjL
      have hme := Lib.hid (jM_esz es fs)
      have hml := Lib.hid (jM_len es fs)
      clear hv hjB hjL hR
      go_enter Tryz.func66, Tryz.ntmps66
      go_wp2_with fail
      (with_reducible refine (lgGood_u es A c _ hr (by omega) (by omega) _ q1).mono ?_)
      rintro e w1 ⟨rfl, hb1⟩
      have s1 := hb1.size
      have hr1 := hr.st hb1
      have hs1 := hs.st hb1
      have hB1 := Lib.hid hb1
      clear hb1 hr hs q1
      go_wp2_with fail
      (with_reducible refine (lgGood_u fs B d _ hs1 (by omega) (by omega) _ q2).mono ?_)
      rintro e w2 ⟨rfl, hb2⟩
      have s2 := hb2.size
      have hr2 := hr1.st hb2
      have hs2 := hs1.st hb2
      have hB2 := Lib.hid (hB1.out.trans (hb2.mono s1))
      clear hb2 hr1 hs1 hB1 q2
      go_wp2_with fail
      go_loopw [6, 7, 9, 20] (fun v i _ k wr => ∃ (i' k' : Nat) (out : List Ent) (rows : List (List Value)), i = .int .i64 i' ∧ k = .int .i64 k' ∧ jAt es fs i' k' out ∧ OwnR wr w2.heap.size wr.heap.size 74 5 v rows ∧ EntRows wr 0 w.heap.size out rows ∧ Below w2.heap.size w2 wr) (fun _ _ _ k _ => fs.length - (intOf k).toNat)
      case atStart => exact ⟨0, 0, [], [], rfl, rfl, jAt_start _ _, OwnR.nil, EntRows.nil, Below.refl _ _⟩
      case round =>
        obtain ⟨i, k, out, rows, rfl, rfl, hj, hown, hen, hbr⟩ := hrel
        obtain ⟨wo, hwo⟩ : ∃ wo, wo = wr := ⟨_, rfl⟩
        subst hwo
        have hszr := hbr.size
        have hil := hj.2.1
        have hkl := hj.2.2.1
        obtain ⟨Av, cv, rfl, -⟩ := hown.cells
        by_cases hlt : k < fs.length
        · obtain ⟨bB, oB, rfl, _, hbB, hcB⟩ := (hs2.st hbr) (by omega)
          obtain ⟨A1, c1, A2, c2, x0, x1, x2, x3, x4, r1, r2⟩ := hcB k hlt
          have hrowB : EntRow wo 0 w.heap.size fs[k] [.int .i64 fs[k].time, .int .i64 fs[k].msg, .int .i64 fs[k].part, .slice A1 fs[k].seen.length c1, .slice A2 fs[k].shown.length c2] := ⟨A1, c1, A2, c2, rfl, r1, r2⟩
          have bkE : Bk (wo.alloc (Obj.cells #[.int .i64 fs[k].time, .int .i64 fs[k].msg, .int .i64 fs[k].part, .slice A1 fs[k].seen.length c1, .slice A2 fs[k].shown.length c2] 74 (0, 0))) wo.heap.size 74 #[.int .i64 fs[k].time, .int .i64 fs[k].msg, .int .i64 fs[k].part, .slice A1 fs[k].seen.length c1, .slice A2 fs[k].shown.length c2] := Bk.new wo _ _
          obtain ⟨EB, hEB⟩ : ∃ EB, EB = Obj.cells #[.int .i64 fs[k].time, .int .i64 fs[k].msg, .int .i64 fs[k].part, .slice A1 fs[k].seen.length c1, .slice A2 fs[k].shown.length c2] 74 (0, 0) := ⟨_, rfl⟩
          rw [← hEB] at bkE
          have hO1 := (hown.alloc EB).mono (Nat.le_refl _) (show wo.heap.size ≤ (wo.alloc EB).heap.size by simp)
          have hE1 := hen.keep (w' := wo.alloc EB) (fun b o _ _ h3 => World.cell?_alloc_lt wo _ _ (by exact h3))
          have hR1 := hrowB.keep (w' := wo.alloc EB) (fun b o _ _ h3 => World.cell?_alloc_lt wo _ _ (by exact h3))
          have hB1 := hbr.alloc hszr EB
          have hne1 : (Value.slice Av rows.length cv).ownBlock ≠ some wo.heap.size := fun hh => by have := hown.2.2 _ hh; omega
          have hall := Lib.hid (And.intro hj (And.intro hO1 (And.intro hE1 (And.intro hR1 (And.intro hB1 (And.intro hne1 bkE))))))
          have hszE : (wo.alloc EB).heap.size = wo.heap.size + 1 := by simp
          have hszH := Lib.hid hszE
          clear hj hown hen hrowB hbr hcB r1 r2 hO1 hE1 hR1 hB1 hne1 bkE hszE
          go_wp2_with fail
          rw [← hEB]
          go_loopw [6, 7] (fun v i wi => ∃ (i' : Nat) (out : List Ent) (rows : List (List Value)), i = .int .i64 i' ∧ jAt es fs i' k out ∧ OwnR wi w2.heap.size wi.heap.size 74 5 v rows ∧ EntRows wi 0 w.heap.size out rows ∧ EntRow wi 0 w.heap.size fs[k] [.int .i64 fs[k].time, .int .i64 fs[k].msg, .int .i64 fs[k].part, .slice A1 fs[k].seen.length c1, .slice A2 fs[k].shown.length c2] ∧ v.ownBlock ≠ some wo.heap.size ∧ wo.heap.size < wi.heap.size ∧ Bk wi wo.heap.size 74 #[.int .i64 fs[k].time, .int .i64 fs[k].msg, .int .i64 fs[k].part, .slice A1 fs[k].seen.length c1, .slice A2 fs[k].shown.length c2] ∧ Below w2.heap.size w2 wi) (fun _ i _ => es.length - (intOf i).toNat)
          case atStart => exact ⟨i, out, rows, rfl, hall.out.1, hall.out.2.1, hall.out.2.2.1, hall.out.2.2.2.1, hall.out.2.2.2.2.2.1, by have := hszH.out; omega, hall.out.2.2.2.2.2.2, hall.out.2.2.2.2.1⟩
          case round =>
            clear hall hszH hil hkl hszr x0 x1 x2 x3 x4
            obtain ⟨i, out, rows, rfl, hj, hown, hen, hrowB, hne, hgs, bkE, hbr⟩ := hrel
            have hszr := hbr.size
            have hil := hj.2.1
            have hol := hj.2.2.2.1
            have hrb : rows.length ≤ 60 := by have := hen.1; omega
            clear hol
            obtain ⟨Av, cv, rfl, -⟩ := hown.cells
            have e0 := bkE.cell 0
            have e1 := bkE.cell 1
            have e2 := bkE.cell 2
            have e3 := bkE.cell 3
            have e4 := bkE.cell 4
            simp at e0 e1 e2 e3 e4
            by_cases hlt2 : i < es.length
            · obtain ⟨bA, oA, rfl, _, hbA, hcA⟩ := (hr2.st hbr) (by omega)
              obtain ⟨A3, c3, A4, c4, y0, y1, y2, y3, y4, r3, r4⟩ := hcA i hlt2
              by_cases ht : es[i].time ≤ fs[k].time
              · have hrowA : EntRow wr 0 w.heap.size es[i] [.int .i64 es[i].time, .int .i64 es[i].msg, .int .i64 es[i].part, .slice A3 es[i].seen.length c3, .slice A4 es[i].shown.length c4] := ⟨A3, c3, A4, c4, rfl, r3, r4⟩
                have hjn := Lib.hid (jAt_a hj hlt2 hlt ht)
                have hj := Lib.hid hj
                have hgd : decide ((i : Int) < (es.length : Int)) = true := by simpa using hlt2
                have hle2 : decide (es[i].time ≤ fs[k].time) = true := by simpa using ht
                have hown := Lib.hid hown
                have hen := Lib.hid hen
                have hrowA := Lib.hid hrowA
                have hrowB := Lib.hid hrowB
                have hneH := Lib.hid hne
                have bkE := Lib.hid bkE
                have hbr := Lib.hid hbr
                clear hcA r3 r4 hne
                go_wp2_with fail
                go_quiet (fail)
                have hcH : Hid (∀ j (hj : j < [([.int .i64 es[i].time, .int .i64 es[i].msg, .int .i64 es[i].part, .slice A3 es[i].seen.length c3, .slice A4 es[i].shown.length c4] : List Value)].length) u, u < 5 → ((wr.drewN nq).alloc (Obj.cells #[.int .i64 es[i].time, .int .i64 es[i].msg, .int .i64 es[i].part, .slice A3 es[i].seen.length c3, .slice A4 es[i].shown.length c4] 74 (0, 0))).cell? ⟨wr.heap.size, j * 5 + u, none⟩ = ([([.int .i64 es[i].time, .int .i64 es[i].msg, .int .i64 es[i].part, .slice A3 es[i].seen.length c3, .slice A4 es[i].shown.length c4] : List Value)][j])[u]?) := Lib.hid fun j hj u hu => by
                  obtain rfl : j = 0 := by simpa using hj
                  rw [Nat.zero_mul, Nat.zero_add, (show Bk ((wr.drewN nq).alloc (Obj.cells #[.int .i64 es[i].time, .int .i64 es[i].msg, .int .i64 es[i].part, .slice A3 es[i].seen.length c3, .slice A4 es[i].shown.length c4] 74 (0, 0))) wr.heap.size 74 #[.int .i64 es[i].time, .int .i64 es[i].msg, .int .i64 es[i].part, .slice A3 es[i].seen.length c3, .slice A4 es[i].shown.length c4] from Bk.new (wr.drewN nq) _ _).cell u]
                  simp
                have hOH := Lib.hid ((show OwnR (wr.drewN nq) w2.heap.size wr.heap.size 74 5 _ rows from hown.out).alloc (Obj.cells #[.int .i64 es[i].time, .int .i64 es[i].msg, .int .i64 es[i].part, .slice A3 es[i].seen.length c3, .slice A4 es[i].shown.length c4] 74 (0, 0)))
                have hEH := Lib.hid ((show EntRows (wr.drewN nq) 0 w.heap.size out rows from hen.out).keep (w' := (wr.drewN nq).alloc (Obj.cells #[.int .i64 es[i].time, .int .i64 es[i].msg, .int .i64 es[i].part, .slice A3 es[i].seen.length c3, .slice A4 es[i].shown.length c4] 74 (0, 0))) (fun b o _ _ h3 => World.cell?_alloc_lt _ _ _ (by exact h3)))
                have hRA := Lib.hid ((show EntRow (wr.drewN nq) 0 w.heap.size es[i] [.int .i64 es[i].time, .int .i64 es[i].msg, .int .i64 es[i].part, .slice A3 es[i].seen.length c3, .slice A4 es[i].shown.length c4] from hrowA.out).keep (w' := (wr.drewN nq).alloc (Obj.cells #[.int .i64 es[i].time, .int .i64 es[i].msg, .int .i64 es[i].part, .slice A3 es[i].seen.length c3, .slice A4 es[i].shown.length c4] 74 (0, 0))) (fun b o _ _ h3 => World.cell?_alloc_lt _ _ _ (by exact h3)))
                have hRB := Lib.hid ((show EntRow (wr.drewN nq) 0 w.heap.size fs[k] [.int .i64 fs[k].time, .int .i64 fs[k].msg, .int .i64 fs[k].part, .slice A1 fs[k].seen.length c1, .slice A2 fs[k].shown.length c2] from hrowB.out).keep (w' := (wr.drewN nq).alloc (Obj.cells #[.int .i64 es[i].time, .int .i64 es[i].msg, .int .i64 es[i].part, .slice A3 es[i].seen.length c3, .slice A4 es[i].shown.length c4] 74 (0, 0))) (fun b o _ _ h3 => World.cell?_alloc_lt _ _ _ (by exact h3)))
                have hKE := Lib.hid ((show Bk (wr.drewN nq) wo.heap.size 74 #[.int .i64 fs[k].time, .int .i64 fs[k].msg, .int .i64 fs[k].part, .slice A1 fs[k].seen.length c1, .slice A2 fs[k].shown.length c2] from bkE.out).alloc (Obj.cells #[.int .i64 es[i].time, .int .i64 es[i].msg, .int .i64 es[i].part, .slice A3 es[i].seen.length c3, .slice A4 es[i].shown.length c4] 74 (0, 0)))
                have hBH := Lib.hid ((below_drewN hbr.out nq).alloc (show w2.heap.size ≤ (wr.drewN nq).heap.size from hszr) (Obj.cells #[.int .i64 es[i].time, .int .i64 es[i].msg, .int .i64 es[i].part, .slice A3 es[i].seen.length c3, .slice A4 es[i].shown.length c4] 74 (0, 0)))
                have hsN := Lib.hid (show ((wr.drewN nq).alloc (Obj.cells #[.int .i64 es[i].time, .int .i64 es[i].msg, .int .i64 es[i].part, .slice A3 es[i].seen.length c3, .slice A4 es[i].shown.length c4] 74 (0, 0))).heap.size = wr.heap.size + 1 by simp)
                clear hown hen hrowA hrowB bkE hbr
                go_wp2_with (at_builtin; refine wp_append_rows rfl (.tmp 38) (.tmp 43) rfl Tryz.underlying65 entInfo rfl (by omega) rfl hOH.out (news := [[.int .i64 es[i].time, .int .i64 es[i].msg, .int .i64 es[i].part, .slice A3 es[i].seen.length c3, .slice A4 es[i].shown.length c4]]) (by rfl) hcH.out (by simp) (by simp [Value.oneCell']) (by simp; omega) (by omega) (by have := hsN.out; omega) ?_; intro v5 w5 ho5 hg5 hb5 hat5)
                have hs5 := hb5.size
                have hE5 := Lib.hid ((hEH.out.below hb5 (by omega)).snoc (hRA.out.below' hb5 (by omega)))
                have hR5 := Lib.hid (hRB.out.below' hb5 (by omega))
                have hK5 := Lib.hid (hKE.out.keep (hg5.block _ (by have := hsN.out; omega) (fun hh => hneH.out hh.symm)))
                have hB5 := Lib.hid (hBH.out.trans hb5)
                have hn5 : Hid (v5.ownBlock ≠ some wo.heap.size) := Lib.hid (by
                  rcases hat5 with hat | hat
                  · rw [hat]; exact hneH.out
                  · rw [hat]; intro hh; injection hh with hh; have := hsN.out; omega)
                have hO5 := Lib.hid ho5
                have hs6 := Lib.hid (show wo.heap.size < w5.heap.size by have := hsN.out; omega)
                clear ho5 hg5 hb5 hat5 hOH hEH hRA hRB hKE hBH hneH hcH hsN hs5
                go_wp2_with fail
                go_roundw
                case rel => exact ⟨i + 1, _, _, by go_num, hjn.out, hO5.out, hE5.out, hR5.out, hn5.out, hs6.out, hK5.out, hB5.out⟩
                case measure => simp [intOf]; omega
              · have hjn := Lib.hid (jAt_b hj hlt (fun _ => ht))
                have hgd : decide ((i : Int) < (es.length : Int)) = true := by simpa using hlt2
                have hle2 : decide (es[i].time ≤ fs[k].time) = false := by simpa using ht
                clear hcA r3 r4
                have hj := Lib.hid hj
                have hown := Lib.hid hown
                have hen := Lib.hid hen
                have hrowB := Lib.hid hrowB
                have hbr := Lib.hid hbr
                clear hne bkE
                go_wp2_with fail
                go_quiet (fail)
                have hcH : Hid (∀ j (hj : j < [([.int .i64 fs[k].time, .int .i64 fs[k].msg, .int .i64 fs[k].part, .slice A1 fs[k].seen.length c1, .slice A2 fs[k].shown.length c2] : List Value)].length) u, u < 5 → ((wr.drewN nq).alloc (Obj.cells #[.int .i64 fs[k].time, .int .i64 fs[k].msg, .int .i64 fs[k].part, .slice A1 fs[k].seen.length c1, .slice A2 fs[k].shown.length c2] 74 (0, 0))).cell? ⟨wr.heap.size, j * 5 + u, none⟩ = ([([.int .i64 fs[k].time, .int .i64 fs[k].msg, .int .i64 fs[k].part, .slice A1 fs[k].seen.length c1, .slice A2 fs[k].shown.length c2] : List Value)][j])[u]?) := Lib.hid fun j hj u hu => by
                  obtain rfl : j = 0 := by simpa using hj
                  rw [Nat.zero_mul, Nat.zero_add, (show Bk ((wr.drewN nq).alloc (Obj.cells #[.int .i64 fs[k].time, .int .i64 fs[k].msg, .int .i64 fs[k].part, .slice A1 fs[k].seen.length c1, .slice A2 fs[k].shown.length c2] 74 (0, 0))) wr.heap.size 74 #[.int .i64 fs[k].time, .int .i64 fs[k].msg, .int .i64 fs[k].part, .slice A1 fs[k].seen.length c1, .slice A2 fs[k].shown.length c2] from Bk.new (wr.drewN nq) _ _).cell u]
                  simp
                have hOH := Lib.hid ((show OwnR (wr.drewN nq) w2.heap.size wr.heap.size 74 5 _ rows from hown.out).alloc (Obj.cells #[.int .i64 fs[k].time, .int .i64 fs[k].msg, .int .i64 fs[k].part, .slice A1 fs[k].seen.length c1, .slice A2 fs[k].shown.length c2] 74 (0, 0)))
                have hEH := Lib.hid ((show EntRows (wr.drewN nq) 0 w.heap.size out rows from hen.out).keep (w' := (wr.drewN nq).alloc (Obj.cells #[.int .i64 fs[k].time, .int .i64 fs[k].msg, .int .i64 fs[k].part, .slice A1 fs[k].seen.length c1, .slice A2 fs[k].shown.length c2] 74 (0, 0))) (fun b o _ _ h3 => World.cell?_alloc_lt _ _ _ (by exact h3)))
                have hRB := Lib.hid ((show EntRow (wr.drewN nq) 0 w.heap.size fs[k] [.int .i64 fs[k].time, .int .i64 fs[k].msg, .int .i64 fs[k].part, .slice A1 fs[k].seen.length c1, .slice A2 fs[k].shown.length c2] from hrowB.out).keep (w' := (wr.drewN nq).alloc (Obj.cells #[.int .i64 fs[k].time, .int .i64 fs[k].msg, .int .i64 fs[k].part, .slice A1 fs[k].seen.length c1, .slice A2 fs[k].shown.length c2] 74 (0, 0))) (fun b o _ _ h3 => World.cell?_alloc_lt _ _ _ (by exact h3)))
                have hBH := Lib.hid ((below_drewN hbr.out nq).alloc (show w2.heap.size ≤ (wr.drewN nq).heap.size from hszr) (Obj.cells #[.int .i64 fs[k].time, .int .i64 fs[k].msg, .int .i64 fs[k].part, .slice A1 fs[k].seen.length c1, .slice A2 fs[k].shown.length c2] 74 (0, 0)))
                have hsN := Lib.hid (show ((wr.drewN nq).alloc (Obj.cells #[.int .i64 fs[k].time, .int .i64 fs[k].msg, .int .i64 fs[k].part, .slice A1 fs[k].seen.length c1, .slice A2 fs[k].shown.length c2] 74 (0, 0))).heap.size = wr.heap.size + 1 by simp)
                clear hown hen hrowB hbr
                go_wp2_with (at_builtin; refine wp_append_rows rfl (.tmp 47) (.tmp 49) rfl Tryz.underlying65 entInfo rfl (by omega) rfl hOH.out (news := [[.int .i64 fs[k].time, .int .i64 fs[k].msg, .int .i64 fs[k].part, .slice A1 fs[k].seen.length c1, .slice A2 fs[k].shown.length c2]]) (by rfl) hcH.out (by simp) (by simp [Value.oneCell']) (by simp; omega) (by omega) (by have := hsN.out; omega) ?_; intro v5 w5 ho5 hg5 hb5 hat5)
                have hE5 := Lib.hid ((hEH.out.below hb5 (by omega)).snoc (hRB.out.below' hb5 (by omega)))
                have hB5 := Lib.hid (hBH.out.trans hb5)
                have hO5 := Lib.hid ho5
                clear ho5 hg5 hb5 hat5 hOH hEH hRB hBH hcH hsN
                go_wp2_with fail
                go_roundw
                case rel => exact ⟨i, k + 1, _, _, rfl, by go_num, hjn.out, hO5.out, hE5.out, hB5.out⟩
                case measure => simp [intOf]; omega
            · have hjn := Lib.hid (jAt_b hj hlt (fun hh => absurd hh hlt2))
              have hgd : decide ((i : Int) < (es.length : Int)) = false := by simpa using hlt2
              have hj := Lib.hid hj
              have hown := Lib.hid hown
              have hen := Lib.hid hen
              have hrowB := Lib.hid hrowB
              have hbr := Lib.hid hbr
              clear hne bkE
              go_wp2_with fail
              go_quiet (fail)
              have hcH : Hid (∀ j (hj : j < [([.int .i64 fs[k].time, .int .i64 fs[k].msg, .int .i64 fs[k].part, .slice A1 fs[k].seen.length c1, .slice A2 fs[k].shown.length c2] : List Value)].length) u, u < 5 → ((wr.drewN nq).alloc (Obj.cells #[.int .i64 fs[k].time, .int .i64 fs[k].msg, .int .i64 fs[k].part, .slice A1 fs[k].seen.length c1, .slice A2 fs[k].shown.length c2] 74 (0, 0))).cell? ⟨wr.heap.size, j * 5 + u, none⟩ = ([([.int .i64 fs[k].time, .int .i64 fs[k].msg, .int .i64 fs[k].part, .slice A1 fs[k].seen.length c1, .slice A2 fs[k].shown.length c2] : List Value)][j])[u]?) := Lib.hid fun j hj u hu => by
                obtain rfl : j = 0 := by simpa using hj
                rw [Nat.zero_mul, Nat.zero_add, (show Bk ((wr.drewN nq).alloc (Obj.cells #[.int .i64 fs[k].time, .int .i64 fs[k].msg, .int .i64 fs[k].part, .slice A1 fs[k].seen.length c1, .slice A2 fs[k].shown.length c2] 74 (0, 0))) wr.heap.size 74 #[.int .i64 fs[k].time, .int .i64 fs[k].msg, .int .i64 fs[k].part, .slice A1 fs[k].seen.length c1, .slice A2 fs[k].shown.length c2] from Bk.new (wr.drewN nq) _ _).cell u]
                simp
              have hOH := Lib.hid ((show OwnR (wr.drewN nq) w2.heap.size wr.heap.size 74 5 _ rows from hown.out).alloc (Obj.cells #[.int .i64 fs[k].time, .int .i64 fs[k].msg, .int .i64 fs[k].part, .slice A1 fs[k].seen.length c1, .slice A2 fs[k].shown.length c2] 74 (0, 0)))
              have hEH := Lib.hid ((show EntRows (wr.drewN nq) 0 w.heap.size out rows from hen.out).keep (w' := (wr.drewN nq).alloc (Obj.cells #[.int .i64 fs[k].time, .int .i64 fs[k].msg, .int .i64 fs[k].part, .slice A1 fs[k].seen.length c1, .slice A2 fs[k].shown.length c2] 74 (0, 0))) (fun b o _ _ h3 => World.cell?_alloc_lt _ _ _ (by exact h3)))
              have hRB := Lib.hid ((show EntRow (wr.drewN nq) 0 w.heap.size fs[k] [.int .i64 fs[k].time, .int .i64 fs[k].msg, .int .i64 fs[k].part, .slice A1 fs[k].seen.length c1, .slice A2 fs[k].shown.length c2] from hrowB.out).keep (w' := (wr.drewN nq).alloc (Obj.cells #[.int .i64 fs[k].time, .int .i64 fs[k].msg, .int .i64 fs[k].part, .slice A1 fs[k].seen.length c1, .slice A2 fs[k].shown.length c2] 74 (0, 0))) (fun b o _ _ h3 => World.cell?_alloc_lt _ _ _ (by exact h3)))
              have hBH := Lib.hid ((below_drewN hbr.out nq).alloc (show w2.heap.size ≤ (wr.drewN nq).heap.size from hszr) (Obj.cells #[.int .i64 fs[k].time, .int .i64 fs[k].msg, .int .i64 fs[k].part, .slice A1 fs[k].seen.length c1, .slice A2 fs[k].shown.length c2] 74 (0, 0)))
              have hsN := Lib.hid (show ((wr.drewN nq).alloc (Obj.cells #[.int .i64 fs[k].time, .int .i64 fs[k].msg, .int .i64 fs[k].part, .slice A1 fs[k].seen.length c1, .slice A2 fs[k].shown.length c2] 74 (0, 0))).heap.size = wr.heap.size + 1 by simp)
              clear hown hen hrowB hbr
              go_wp2_with (at_builtin; refine wp_append_rows rfl (.tmp 47) (.tmp 49) rfl Tryz.underlying65 entInfo rfl (by omega) rfl hOH.out (news := [[.int .i64 fs[k].time, .int .i64 fs[k].msg, .int .i64 fs[k].part, .slice A1 fs[k].seen.length c1, .slice A2 fs[k].shown.length c2]]) (by rfl) hcH.out (by simp) (by simp [Value.oneCell']) (by simp; omega) (by omega) (by have := hsN.out; omega) ?_; intro v5 w5 ho5 hg5 hb5 hat5)
              have hE5 := Lib.hid ((hEH.out.below hb5 (by omega)).snoc (hRB.out.below' hb5 (by omega)))
              have hB5 := Lib.hid (hBH.out.trans hb5)
              have hO5 := Lib.hid ho5
              clear ho5 hg5 hb5 hat5 hOH hEH hRB hBH hcH hsN
              go_wp2_with fail
              go_roundw
              case rel => exact ⟨i, k + 1, _, _, rfl, by go_num, hjn.out, hO5.out, hE5.out, hB5.out⟩
              case measure => simp [intOf]; omega
        · obtain rfl : k = fs.length := by omega
          have hje := Lib.hid (jAt_end hj)
          have hol := hj.2.2.2.1
          have hrl := hen.1
          have hOH := Lib.hid hown
          have hEH := Lib.hid hen
          have hBH := Lib.hid hbr
          have hr3 := Lib.hid (hr2.st hbr)
          clear hj hown hen hbr hr2 hs2
          by_cases h0 : es.length = 0
          · cases A with
            | none =>
              go_wp2_with (at_builtin; refine wp_append_ents rfl (.tmp 52) (.tmp 55) rfl rfl hOH.out (es := es.drop i) (by rfl) (by first | exact List.length_drop.symm | (rw [List.length_drop]; omega)) (RdE.drop0 (w := wo) (lo := 0) (hi := w.heap.size) (A := none) i h0) (by rw [List.length_drop]; omega) (by omega) ?_; intro v5 w5 rows5 hr5 ho5 hg5 hb5)
              have hE5 := (hEH.out.below hb5 (by omega)).append (hr5.below hb5 (by omega))
              rw [hje.out] at hE5
              obtain ⟨A5, c5, rfl, -⟩ := ho5.cells
              have hrd := Lib.hid (ho5.rdE hE5)
              have hB5 := Lib.hid (hB2.out.trans ((hBH.out.trans hb5).mono (by omega)))
              have hs5 := hB5.out.size
              clear hE5 ho5 hr5 hg5 hb5 hOH hEH hBH hr3 hje hB2
              go_wp2_with fail
              (with_reducible refine (lgIf_v (jM es fs) A5 _ c5 _ hrd.out.1 hrd.out.2.1 (by have := hme.out; omega) (by have := hml.out; omega) v hvH.out R hjH.out).mono ?_)
              rintro e w6 ⟨A6, c6, rfl, o6, hb6⟩
              have hRd := Lib.hid (o6.rd'.std)
              have hB6 := Lib.hid (hB5.out.trans (hb6.mono hs5))
              clear o6 hb6 hB5 hrd
              go_wp2_with fail
              go_ret2
              exact ⟨A6, c6, rfl, hRd.out, hsz.out, hB6.out⟩
            | some ad =>
              go_wp2_with (at_builtin; refine wp_append_ents rfl (.tmp 52) (.tmp 55) rfl rfl hOH.out (es := es.drop i) (by rfl) (by first | exact List.length_drop.symm | (rw [List.length_drop]; omega)) (RdE.drop0 (w := wo) (lo := 0) (hi := w.heap.size) (A := if c = i then some ad else some (ad.add (i * 5))) i h0) (by rw [List.length_drop]; omega) (by omega) ?_; intro v5 w5 rows5 hr5 ho5 hg5 hb5)
              all_goals
                have hE5 := (hEH.out.below hb5 (by omega)).append (hr5.below hb5 (by omega))
                rw [hje.out] at hE5
                obtain ⟨A5, c5, rfl, -⟩ := ho5.cells
                have hrd := Lib.hid (ho5.rdE hE5)
                have hB5 := Lib.hid (hB2.out.trans ((hBH.out.trans hb5).mono (by omega)))
                have hs5 := hB5.out.size
                clear hE5 ho5 hr5 hg5 hb5 hOH hEH hBH hr3 hje hB2
                go_wp2_with fail
                (with_reducible refine (lgIf_v (jM es fs) A5 _ c5 _ hrd.out.1 hrd.out.2.1 (by have := hme.out; omega) (by have := hml.out; omega) v hvH.out R hjH.out).mono ?_)
                rintro e w6 ⟨A6, c6, rfl, o6, hb6⟩
                have hRd := Lib.hid (o6.rd'.std)
                have hB6 := Lib.hid (hB5.out.trans (hb6.mono hs5))
                clear o6 hb6 hB5 hrd
                go_wp2_with fail
                go_ret2
                exact ⟨A6, c6, rfl, hRd.out, hsz.out, hB6.out⟩
          · obtain ⟨bA, oA, rfl, -⟩ := hr3.out (by omega)
            have hr4 : Hid (RdE wo 0 w.heap.size (if c = i then some ⟨bA, oA, none⟩ else some ⟨bA, oA + i * 5, none⟩) (es.drop i)) := Lib.hid (by
              split
              · exact fun hp => absurd hp (by rw [List.length_drop]; omega)
              · exact hr3.out.drop i)
            go_wp2_with (at_builtin; refine wp_append_ents rfl (.tmp 52) (.tmp 55) rfl rfl hOH.out (es := es.drop i) (by rfl) (by first | exact List.length_drop.symm | (rw [List.length_drop]; omega)) (hr4.out) (by rw [List.length_drop]; omega) (by omega) ?_; intro v5 w5 rows5 hr5 ho5 hg5 hb5)
            all_goals
              have hE5 := (hEH.out.below hb5 (by omega)).append (hr5.below hb5 (by omega))
              rw [hje.out] at hE5
              obtain ⟨A5, c5, rfl, -⟩ := ho5.cells
              have hrd := Lib.hid (ho5.rdE hE5)
              have hB5 := Lib.hid (hB2.out.trans ((hBH.out.trans hb5).mono (by omega)))
              have hs5 := hB5.out.size
              clear hE5 ho5 hr5 hg5 hb5 hOH hEH hBH hr3 hje hB2
              go_wp2_with fail
              (with_reducible refine (lgIf_v (jM es fs) A5 _ c5 _ hrd.out.1 hrd.out.2.1 (by have := hme.out; omega) (by have := hml.out; omega) v hvH.out R hjH.out).mono ?_)
              rintro e w6 ⟨A6, c6, rfl, o6, hb6⟩
              have hRd := Lib.hid (o6.rd'.std)
              have hB6 := Lib.hid (hB5.out.trans (hb6.mono hs5))
              clear o6 hb6 hB5 hrd
              go_wp2_with fail
              go_ret2
              exact ⟨A6, c6, rfl, hRd.out, hsz.out, hB6.out⟩
end Go.Proofs.YtjhbffndiaggmaaGreatDoor
