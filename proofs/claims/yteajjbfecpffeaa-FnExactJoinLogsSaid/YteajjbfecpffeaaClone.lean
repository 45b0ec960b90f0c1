/-
  The program's copy of a log in new memory: the contract. The conditions are bounds on lengths.
-/
import Derived.Test.YteajjbfecpffeaaLgOwn
import Derived.Deep.RegionLaw
namespace Go.Proofs.Yteajjbfecpffeaa
open Go.RowKit Go.ChangeShapes Go.WideShapes
set_option linter.unusedVariables false
set_option linter.unusedSimpArgs false

set_option maxRecDepth 100000 in
set_option maxHeartbeats 4000000 in
theorem cloneLog_any (es : List Ent) (A : Option Addr) (c : Nat) {l h : Nat} (w : World) (hr0 : RdE w l h A es) (hl : eszL es ≤ 1048576) :
    Calls Try.prog 47 #[.slice A es.length c] w fun e w' => ∃ v rows, e = .returned v ∧ OwnR w' w.heap.size w'.heap.size 49 5 v rows ∧ EntsOwn w' w.heap.size w'.heap.size es rows ∧ Below w.heap.size w w' := by
  have hr := hr0.std
  clear hr0
  have hel := esz_len es
  go_enter Try.func47, Try.ntmps47
  go_wp2_with (at_make; refine wp_make_ents rfl _ _ rfl es.length rfl rfl (by omega) ?_; intro w1 hown1 hb1 hs1)
  go_loopw [4, 5, 11] (fun _ _ i wr => ∃ k : Nat, k ≤ es.length ∧ i = .int .i64 k ∧ OwnE wr w.heap.size wr.heap.size (.slice (some ⟨w.heap.size, 0, none⟩) es.length es.length) (tkE es k) ∧ Below w.heap.size w wr ∧ w.heap.size + 1 ≤ wr.heap.size) (fun _ _ i _ => es.length - (intOf i).toNat)
  case atStart => exact ⟨0, Nat.zero_le _, rfl, by rw [tkE_zero]; exact hown1, hb1, by omega⟩
  case round =>
    clear hown1 hb1 hs1
    obtain ⟨k, hk, rfl, hown, hbr, hsr⟩ := hrel
    by_cases hlt : k < es.length
    · obtain ⟨b, off, rfl, _, _, hc⟩ := (hr.below hbr (Nat.le_refl _)) (by omega)
      obtain ⟨A1, c1, A2, c2, x0, x1, x2, x3, x4, r1, r2⟩ := hc k hlt
      have hat := esz_at es k hlt
      have bk := (Bk.new wr 49 #[.int .i64 es[k].time, .int .i64 es[k].msg, .int .i64 es[k].part, .slice A1 es[k].seen.length c1, .slice A2 es[k].shown.length c2]).drew
      have r1d := (r1.alloc (.cells #[.int .i64 es[k].time, .int .i64 es[k].msg, .int .i64 es[k].part, .slice A1 es[k].seen.length c1, .slice A2 es[k].shown.length c2] 49)).drew
      have r2d := (r2.alloc (.cells #[.int .i64 es[k].time, .int .i64 es[k].msg, .int .i64 es[k].part, .slice A1 es[k].seen.length c1, .slice A2 es[k].shown.length c2] 49)).drew
      have hownd := (hown.alloc (.cells #[.int .i64 es[k].time, .int .i64 es[k].msg, .int .i64 es[k].part, .slice A1 es[k].seen.length c1, .slice A2 es[k].shown.length c2] 49)).drew
      have hBd := (hbr.alloc (by omega) (.cells #[.int .i64 es[k].time, .int .i64 es[k].msg, .int .i64 es[k].part, .slice A1 es[k].seen.length c1, .slice A2 es[k].shown.length c2] 49)).drew
      have hszd : ((wr.alloc (.cells #[.int .i64 es[k].time, .int .i64 es[k].msg, .int .i64 es[k].part, .slice A1 es[k].seen.length c1, .slice A2 es[k].shown.length c2] 49)).drew).heap.size = wr.heap.size + 1 := by simp
      have hszH := Lib.hid hszd
      clear hc r1 r2 hown hbr hszd
      go_wp2_with fail
      go_region_law (first
        | (go_simp; (go_at_call 80; ((with_reducible refine (Clone_any es[k].seen A1 c1 _ r1d (by omega)).mono ?_); rintro e w2 ⟨v2, rfl, o2, hb2⟩; (obtain ⟨A3, c3, rfl, _, _⟩ := o2.rd); (have bk2 := bk.st hb2); (have r2e := r2d.st hb2); (have y3 := bk2.cell 3); (have y4 := bk2.cell 4); (have g3 := bk2.frozen 3); (have g4 := bk2.frozen 4); (simp at y3 y4))))
        | (go_simp; (go_at_call 80; ((with_reducible refine (Clone_any es[k].shown A2 c2 _ r2e (by omega)).mono ?_); rintro e w3 ⟨v3, rfl, o3, hb3⟩; (obtain ⟨A4, c4, rfl, _, _⟩ := o3.rd); (have bk3 := bk2.st hb3); (have p3 := bk3.cell 3); (have p4 := bk3.cell 4); (have q3 := bk3.frozen 3); (have q4 := bk3.frozen 4); (simp at p3 p4)))))
      all_goals
        have s2 : wr.heap.size + 1 ≤ w2.heap.size := by have h0 := hb2.size; rw [hszH.out] at h0; exact h0
        have s3 := hb3.size
        rw [hszH.out] at o2
        obtain ⟨W, hW⟩ : ∃ W, W = (w3.setCell ⟨wr.heap.size, 3, none⟩ (.slice A3 es[k].seen.length c3)).setCell ⟨wr.heap.size, 4, none⟩ (.slice A4 es[k].shown.length c4) := ⟨_, rfl⟩
        have sW : W.heap.size = w3.heap.size := by rw [hW]; simp only [size_setCell]
        have bkW : Bk W wr.heap.size 49 #[.int .i64 es[k].time, .int .i64 es[k].msg, .int .i64 es[k].part, .slice A3 es[k].seen.length c3, .slice A4 es[k].shown.length c4] := by rw [hW]; simpa using (bk3.set_ 3 (.slice A3 es[k].seen.length c3)).set_ 4 (.slice A4 es[k].shown.length c4)
        have hoW : OwnE W w.heap.size wr.heap.size (.slice (some ⟨w.heap.size, 0, none⟩) es.length es.length) (tkE es k) := by rw [hW]; exact (((hownd.st hb2).st hb3).setCell (p := ⟨wr.heap.size, 3, none⟩) (.inr (Nat.le_refl _)) _).setCell (p := ⟨wr.heap.size, 4, none⟩) (.inr (Nat.le_refl _)) _
        have o2W : Own W (wr.heap.size + 1) w2.heap.size (.slice A3 es[k].seen.length c3) es[k].seen := by rw [hW]; exact ((o2.st hb3).setCell (p := ⟨wr.heap.size, 3, none⟩) (.inl (by dsimp only; omega)) _).setCell (p := ⟨wr.heap.size, 4, none⟩) (.inl (by dsimp only; omega)) _
        have o3W : Own W w2.heap.size w3.heap.size (.slice A4 es[k].shown.length c4) es[k].shown := by rw [hW]; exact (o3.setCell (p := ⟨wr.heap.size, 3, none⟩) (.inl (by dsimp only; omega)) _).setCell (p := ⟨wr.heap.size, 4, none⟩) (.inl (by dsimp only; omega)) _
        have hBW : Below w.heap.size w W := by rw [hW]; exact (((hBd.trans (hb2.mono (by rw [hszH.out]; omega))).trans (hb3.mono (by omega))).setCell (p := ⟨wr.heap.size, 3, none⟩) (by dsimp only; omega) _).setCell (p := ⟨wr.heap.size, 4, none⟩) (by dsimp only; omega) _
        have hst := hoW.stored (by rw [tkE_length _ _ hk]; exact hlt) es[k] _ _ (o2W.mono (show wr.heap.size ≤ wr.heap.size + 1 by omega) (show w2.heap.size ≤ w3.heap.size by omega)) (o3W.mono (show wr.heap.size ≤ w2.heap.size by omega) (Nat.le_refl _)) (Dj.of_lt o2W o3W (Nat.le_refl _)) (by omega) (by omega)
        rw [tkE_succ es k hlt] at hst
        have hstH := Lib.hid hst
        have hB3 := Lib.hid (setEnt_below (o := k * 5) hBW (Nat.le_refl w.heap.size) es[k] (.slice A3 es[k].seen.length c3) (.slice A4 es[k].shown.length c4))
        obtain ⟨_, _, _, ⟨y0, z0⟩, ⟨y1, z1⟩, ⟨y2, z2⟩, ⟨y3', z3⟩, ⟨y4', z4⟩, hfr⟩ := hoW.at_ (by rw [tkE_length _ _ hk]; exact hlt)
        have f0 := hfr (k * 5)
        have f1 := hfr (k * 5 + 1)
        have f2 := hfr (k * 5 + 2)
        have f3 := hfr (k * 5 + 3)
        have f4 := hfr (k * 5 + 4)
        have u0 := bkW.cell 0
        have u1 := bkW.cell 1
        have u2 := bkW.cell 2
        have u3 := bkW.cell 3
        have u4 := bkW.cell 4
        simp at u0 u1 u2 u3 u4
        rw [← hW]
        clear hst hoW hownd hBW hBd hb2 hb3 hfr o2 o3 o2W o3W bk bk2 bk3 bkW r1d r2d r2e g3 g4 q3 q4 y3 y4 p3 p4 x0 x1 x2 x3 x4 hat hW hszH
        go_wp2
        go_roundw
        case rel => exact ⟨k + 1, by omega, by go_num, by simp only [size_setCell, sW]; exact hstH.out, hB3.out, by simp only [size_setCell, sW]; omega⟩
        case measure => simp [intOf]; omega
    · obtain rfl : k = es.length := by omega
      rw [tkE_all] at hown
      obtain ⟨rows, h1, h2⟩ := hown.rws
      have h1H := Lib.hid h1
      have h2H := Lib.hid h2
      clear hown h1 h2
      go_wp2
      go_ret
      exact ⟨_, rows, rfl, h1H.out, h2H.out, hbr⟩
end Go.Proofs.Yteajjbfecpffeaa
