/-
  The reference's copy of a log, with no memory shared: the contract. The conditions are bounds on lengths.
-/
import Derived.Test.YteajjbfecpffeaaKeep
import Derived.Test.YteajjbfecpffeaaPureE
import Derived.Test.YteajjbfecpffeaaFindI
import Derived.Test.YteajjbfecpffeaaFindE
import Derived.Deep.RegionHeld3
import Derived.IntWalk
namespace Go.Proofs.Yteajjbfecpffeaa
open Go.RowKit Go.ChangeShapes Go.WideShapes
set_option linter.unusedVariables false
set_option linter.unusedSimpArgs false

set_option maxRecDepth 100000 in
set_option maxHeartbeats 4000000 in
theorem lgOwn_any (es : List Ent) (A : Option Addr) (c : Nat) {l h : Nat} (w : World) (hr0 : RdE w l h A es) (hl : eszL es ≤ 1048576) :
    Calls Try.prog 92 #[.slice A es.length c] w fun e w' => ∃ v rows, e = .returned v ∧ OwnR w' w.heap.size w'.heap.size 49 5 v rows ∧ EntsOwn w' w.heap.size w'.heap.size es rows ∧ Below w.heap.size w w' := by
  have hr := hr0.std
  have hel := esz_len es
  clear hr0
  go_enter Try.func92, Try.ntmps92
  go_wp2
  go_loopw [3, 5, 8] (fun v _ i wr => ∃ (k : Nat) (rows : List (List Value)), k ≤ es.length ∧ i = .int .i64 k ∧ OwnR wr w.heap.size wr.heap.size 49 5 v rows ∧ EntsOwn wr w.heap.size wr.heap.size (es.take k) rows ∧ Below w.heap.size w wr) (fun _ _ i _ => es.length - (intOf i).toNat)
  case atStart => exact ⟨0, [], Nat.zero_le _, rfl, OwnR.nil, EntsOwn.nil, Below.refl _ _⟩
  case round =>
    obtain ⟨k, rows, hk, rfl, hown, hen, hbr⟩ := hrel
    have hszr := hbr.size
    obtain ⟨Av, cv, rfl, hvc, hvm, -, -⟩ := hown.cells
    by_cases hlt : k < es.length
    · obtain ⟨b0, off, rfl, _, _, hc⟩ := (hr.st hbr) (by omega)
      obtain ⟨A1, c1, A2, c2, x0, x1, x2, x3, x4, r1, r2⟩ := hc k hlt
      have hat := esz_at es k hlt
      have hrl : rows.length ≤ k := by have := hen.len; rw [List.length_take] at this; omega
      have htk := Lib.hid (List.take_succ_eq_append_getElem hlt)
      obtain ⟨EB, hEB⟩ : ∃ EB, EB = Obj.cells #[.int .i64 es[k].time, .int .i64 es[k].msg, .int .i64 es[k].part, .slice A1 es[k].seen.length c1, .slice A2 es[k].shown.length c2] 49 (0, 0) := ⟨_, rfl⟩
      clear hc
      go_wp2_with fail
      (with_reducible refine (l1Own_any es[k].seen A1 c1 _ (r1.alloc _) (by omega)).mono ?_)
      rintro e w2 ⟨v2, rfl, o2, hb2⟩
      rw [← hEB] at hb2 o2
      have s2 : wr.heap.size + 1 ≤ w2.heap.size := by have := hb2.size; simpa using this
      have esz2 : (wr.alloc EB).heap.size = wr.heap.size + 1 := by simp
      rw [esz2] at o2
      obtain ⟨A3, c3, rfl, _, _⟩ := o2.rd
      have bk : Bk w2 wr.heap.size 49 #[.int .i64 es[k].time, .int .i64 es[k].msg, .int .i64 es[k].part, .slice A1 es[k].seen.length c1, .slice A2 es[k].shown.length c2] := by rw [hEB] at hb2; exact (Bk.new wr 49 _).st hb2
      have bk3 : Bk (w2.setCell ⟨wr.heap.size, 3, none⟩ (.slice A3 es[k].seen.length c3)) wr.heap.size 49 #[.int .i64 es[k].time, .int .i64 es[k].msg, .int .i64 es[k].part, .slice A3 es[k].seen.length c3, .slice A2 es[k].shown.length c2] := by simpa using bk.set_ 3 (.slice A3 es[k].seen.length c3)
      have f3 := bk.frozen 3
      have y3 := bk.cell 3
      have z4 := bk3.cell 4
      simp at y3 z4
      have r2b := ((r2.alloc EB).st hb2).mono (Nat.le_refl _) (show w.heap.size ≤ wr.heap.size by omega)
      have r2c := r2b.setCell (p := ⟨wr.heap.size, 3, none⟩) (Nat.le_refl _) (.slice A3 es[k].seen.length c3)
      have o2c := o2.setCell (p := ⟨wr.heap.size, 3, none⟩) (.inl (by dsimp only; omega)) (.slice A3 es[k].seen.length c3)
      have ho2 := ((hown.alloc EB).st hb2).setCell (p := ⟨wr.heap.size, 3, none⟩) (.inr (Nat.le_refl _)) (.slice A3 es[k].seen.length c3)
      have hB2 := ((hbr.alloc hszr EB).trans (hb2.mono (by simp; omega))).setCell (p := ⟨wr.heap.size, 3, none⟩) hszr (.slice A3 es[k].seen.length c3)
      have he2 := (((hen.alloc EB).st hb2)).keep (w' := w2.setCell ⟨wr.heap.size, 3, none⟩ (.slice A3 es[k].seen.length c3)) (fun q _ h2 _ => Below.heap_setCell _ _ _ _ (by dsimp only; omega))
      obtain ⟨W2, hW2⟩ : ∃ W2, W2 = w2.setCell ⟨wr.heap.size, 3, none⟩ (.slice A3 es[k].seen.length c3) := ⟨_, rfl⟩
      have sW2 : W2.heap.size = w2.heap.size := by rw [hW2, size_setCell]
      clear hb2 o2 hown hen hbr x0 x1 x2 x3 x4 r1 r2 r2b hEB esz2
      go_wp2_with fail
      rw [← hW2] at bk3 z4 r2c o2c ho2 hB2 he2 ⊢
      clear y3 f3 bk hW2
      (with_reducible refine (l1Own_any es[k].shown A2 c2 _ r2c (by omega)).mono ?_)
      rintro e w3 ⟨v3, rfl, o3, hb3⟩
      obtain ⟨A4, c4, rfl, _, _⟩ := o3.rd
      have s3 := hb3.size
      have bk4 := bk3.st hb3
      have bk5 : Bk (w3.setCell ⟨wr.heap.size, 4, none⟩ (.slice A4 es[k].shown.length c4)) wr.heap.size 49 #[.int .i64 es[k].time, .int .i64 es[k].msg, .int .i64 es[k].part, .slice A3 es[k].seen.length c3, .slice A4 es[k].shown.length c4] := by simpa using bk4.set_ 4 (.slice A4 es[k].shown.length c4)
      have f4 := bk4.frozen 4
      have u0 := bk4.cell 0
      have u1 := bk4.cell 1
      have u2 := bk4.cell 2
      have u3 := bk4.cell 3
      have u4 := bk4.cell 4
      simp at u0 u1 u2 u3 u4
      have o3c := o3.setCell (p := ⟨wr.heap.size, 4, none⟩) (.inl (by dsimp only; omega)) (.slice A4 es[k].shown.length c4)
      have o2d := (o2c.st hb3).setCell (p := ⟨wr.heap.size, 4, none⟩) (.inl (by dsimp only; omega)) (.slice A4 es[k].shown.length c4)
      have ho3 := (ho2.st hb3).setCell (p := ⟨wr.heap.size, 4, none⟩) (.inr (Nat.le_refl _)) (.slice A4 es[k].shown.length c4)
      have hB3 := (hB2.trans (hb3.mono (by omega))).setCell (p := ⟨wr.heap.size, 4, none⟩) hszr (.slice A4 es[k].shown.length c4)
      have he3 := (he2.st hb3).keep (w' := w3.setCell ⟨wr.heap.size, 4, none⟩ (.slice A4 es[k].shown.length c4)) (fun q _ h2 _ => Below.heap_setCell _ _ _ _ (by dsimp only; omega))
      have hdj := Dj.of_lt (o2c.st hb3) o3 (by omega)
      obtain ⟨W3, hW3⟩ : ∃ W3, W3 = w3.setCell ⟨wr.heap.size, 4, none⟩ (.slice A4 es[k].shown.length c4) := ⟨_, rfl⟩
      have sW3 : W3.heap.size = w3.heap.size := by rw [hW3, size_setCell]
      have hent : EntOwn W3 (wr.heap.size + 1) w3.heap.size es[k] [.int .i64 es[k].time, .int .i64 es[k].msg, .int .i64 es[k].part, .slice A3 es[k].seen.length c3, .slice A4 es[k].shown.length c4] := ⟨_, _, rfl, by rw [hW3]; exact o2d.mono (Nat.le_refl _) (by omega), by rw [hW3]; exact o3c.mono (by omega) (Nat.le_refl _), hdj⟩
      rw [← hW3] at bk5 ho3 hB3 he3
      have hentH := Lib.hid hent
      have he3H := Lib.hid he3
      have hB3H := Lib.hid hB3
      clear hb3 o3 o2c o2d o3c hdj ho2 hB2 he2 bk3 z4 r2c hent he3 hB3
      obtain ⟨NB, hNB⟩ : ∃ NB, NB = Obj.cells #[.int .i64 es[k].time, .int .i64 es[k].msg, .int .i64 es[k].part, .slice A3 es[k].seen.length c3, .slice A4 es[k].shown.length c4] 49 (0, 0) := ⟨_, rfl⟩
      have hbk : Bk (W3.alloc NB) W3.heap.size 49 #[.int .i64 es[k].time, .int .i64 es[k].msg, .int .i64 es[k].part, .slice A3 es[k].seen.length c3, .slice A4 es[k].shown.length c4] := by rw [hNB]; exact Bk.new W3 _ _
      have hcell : ∀ i (hi : i < [[Value.int .i64 es[k].time, .int .i64 es[k].msg, .int .i64 es[k].part, .slice A3 es[k].seen.length c3, .slice A4 es[k].shown.length c4]].length) u, u < 5 → (W3.alloc NB).cell? ⟨W3.heap.size, i * 5 + u, none⟩ = ([[Value.int .i64 es[k].time, .int .i64 es[k].msg, .int .i64 es[k].part, .slice A3 es[k].seen.length c3, .slice A4 es[k].shown.length c4]][i])[u]? := fun i hi u hu => by
        obtain rfl : i = 0 := by simpa using hi
        rw [Nat.zero_mul, Nat.zero_add, hbk.cell u]
        simp
      have hE3 := he3H.out.alloc NB
      have hent3 := hentH.out.keep (w' := W3.alloc NB) (fun q _ _ h3 => Below.heap_alloc W3 NB q h3)
      have hB3 := hB3H.out.alloc (by omega) NB
      have hOb := ho3.alloc NB
      rw [sW3] at hcell
      rw [hW3, hNB] at hcell hOb hE3 hent3 hB3
      have hcH := Lib.hid hcell
      have hObH := Lib.hid hOb
      have hE3H := Lib.hid hE3
      have hent3H := Lib.hid hent3
      have hB4H := Lib.hid hB3
      clear hcell hbk hOb ho3 hE3 hent3 hB3
      go_wp2_with (at_builtin; refine wp_append_rows rfl (.tmp 20) (.tmp 22) rfl Try.underlying24 entInfo rfl (by omega) rfl hObH.out (news := [[.int .i64 es[k].time, .int .i64 es[k].msg, .int .i64 es[k].part, .slice A3 es[k].seen.length c3, .slice A4 es[k].shown.length c4]]) (by rfl) hcH.out (by simp) (by simp [Value.oneCell']) (by simp; omega) (by omega) (by simp; omega) ?_; intro v5 w5 ho5 hg5 hb5 hat5)
      have hK := KeepI.grown hObH.out hg5 (by decide)
      have s5 : w3.heap.size ≤ w5.heap.size := by have := hg5.size; simp at this; omega
      have hE5 := (hE3H.out.keepI hK).mono (Nat.le_refl w.heap.size) (show wr.heap.size ≤ wr.heap.size + 1 by omega)
      have hent5 := hent3H.out.keepI hK
      have hE6 := ((hE5.mono (Nat.le_refl _) (show wr.heap.size + 1 ≤ w5.heap.size by omega)).snoc (hent5.mono (by omega) s5) (fun s hs => by
        obtain ⟨e', he'⟩ := hE5.mem hs
        exact he'.dj_lt hent5 (Nat.le_refl _)))
      rw [← htk.out] at hE6
      have hE6H := Lib.hid hE6
      have hB5 := Lib.hid (hB4H.out.trans hb5)
      have ho5H := Lib.hid ho5
      clear ho5 hg5 hb5 hE5 hE6 hent5 hK
      go_roundw
      case rel => exact ⟨k + 1, _, by omega, by go_num, ho5H.out, hE6H.out, hB5.out⟩
      case measure => simp [intOf]; omega
    · obtain rfl : k = es.length := by omega
      rw [List.take_length] at hen
      have hoH := Lib.hid hown
      have heH := Lib.hid hen
      clear hown hen
      go_wp2
      go_ret
      exact ⟨_, rows, rfl, hoH.out, heH.out, hbr⟩
end Go.Proofs.Yteajjbfecpffeaa
