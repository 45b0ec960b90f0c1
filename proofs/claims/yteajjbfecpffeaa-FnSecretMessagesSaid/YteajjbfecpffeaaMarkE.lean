/-
  The statements' helpers that mark a log's memory and look whether the marks are held. The conditions are bounds on lengths.
-/
import Derived.Test.YteajjbfecpffeaaLog
import Derived.Test.YteajjbfecpffeaaInts
namespace Go.Proofs.Yteajjbfecpffeaa
open Go.RowKit Go.ChangeShapes Go.WideShapes
set_option linter.unusedVariables false
set_option linter.unusedSimpArgs false

section
variable {w w' : World} {lo hi l r : Nat} {u : Value} {s : List Int}
/-- the blocks of a slice of integers that a call has made, as narrow as they go -/
theorem Own.tight (h : Own w lo hi u s) : ∃ l r, Own w l r u s ∧ ∀ b, l ≤ b → b < r → u.ownBlock = some b ∧ lo ≤ b ∧ b < hi := by
  have hlt := h.2
  rcases h.1.2 with ⟨rfl, h0⟩ | ⟨g, cap, cur, rfl, hb, hg, hnc, hcm, hsz, htk⟩
  · obtain rfl : s = [] := List.eq_nil_of_length_eq_zero h0
    exact ⟨0, 0, Own.nil, fun b _ hb => absurd hb (by omega)⟩
  · refine ⟨g, g + 1, ⟨⟨h.1.1, .inr ⟨g, cap, cur, rfl, Nat.le_refl _, hg, hnc, hcm, hsz, htk⟩⟩, fun k hk => ?_⟩, fun b h1 h2 => ?_⟩
    · have : g = k := by simpa [Value.ownBlock] using hk
      omega
    · obtain rfl : b = g := by omega
      exact ⟨by simp [Value.ownBlock], hb, hlt b (by simp [Value.ownBlock])⟩
theorem Own.wide (h : Own w l r u s) (hb : ∀ b, l ≤ b → b < r → lo ≤ b ∧ b < hi) : Own w lo hi u s := by
  have hlt := h.2
  rcases h.1.2 with ⟨rfl, h0⟩ | ⟨g, cap, cur, rfl, hb', hg, hnc, hcm, hsz, htk⟩
  · obtain rfl : s = [] := List.eq_nil_of_length_eq_zero h0
    exact Own.nil
  · have hg2 := hlt g (by simp [Value.ownBlock])
    have := hb g hb' hg2
    refine ⟨⟨h.1.1, .inr ⟨g, cap, cur, rfl, this.1, hg, hnc, hcm, hsz, htk⟩⟩, fun k hk => ?_⟩
    have : g = k := by simpa [Value.ownBlock] using hk
    omega
theorem Own.set3 {g : Nat} (h : Own w l r u s) (hn : u.ownBlock ≠ some g) (i j k : Nat) (x y z : Value) : Own (((w.setCell ⟨g, i, none⟩ x).setCell ⟨g, j, none⟩ y).setCell ⟨g, k, none⟩ z) l r u s :=
  ((h.setOther (p := ⟨g, i, none⟩) hn x).setOther (p := ⟨g, j, none⟩) hn y).setOther (p := ⟨g, k, none⟩) hn z
end

theorem Fr.widen {w w' : World} {l r lo hi : Nat} (h : Fr l r w w') (hb : ∀ b, l ≤ b → b < r → lo ≤ b ∧ b < hi) : Fr lo hi w w' :=
  ⟨h.os, h.tape, h.output, h.size, fun b h1 h2 => h.block b h1 (by
    by_cases hx : l ≤ b ∧ b < r
    · have := hb b hx.1 hx.2; omega
    · omega)⟩

/-- the k-th entry of a made log, opened for marks: its cells, its two slices in blocks of their own, and the log behind the marks -/
theorem OwnE.open_ {w : World} {lo hi n c k : Nat} {A : Option Addr} {es : List Ent} (h : OwnE w lo hi (.slice A n c) es) (hk : k < es.length) :
    ∃ g A1 c1 A2 c2 l1 r1 l2 r2, A = some ⟨g, 0, none⟩ ∧ lo ≤ g ∧ g < hi ∧ g < w.heap.size ∧ (∃ x0, w.cell? ⟨g, k * 5, none⟩ = some x0) ∧ (∃ x1, w.cell? ⟨g, k * 5 + 1, none⟩ = some x1) ∧ (∃ x2, w.cell? ⟨g, k * 5 + 2, none⟩ = some x2) ∧
      w.cell? ⟨g, k * 5 + 3, none⟩ = some (.slice A1 es[k].seen.length c1) ∧ w.cell? ⟨g, k * 5 + 4, none⟩ = some (.slice A2 es[k].shown.length c2) ∧ (∀ j, w.frozen? ⟨g, j, none⟩ = false) ∧
      Own w l1 r1 (.slice A1 es[k].seen.length c1) es[k].seen ∧ Own w l2 r2 (.slice A2 es[k].shown.length c2) es[k].shown ∧ (Value.slice A1 es[k].seen.length c1).ownBlock ≠ some g ∧ (Value.slice A2 es[k].shown.length c2).ownBlock ≠ some g ∧
      (∀ b, l1 ≤ b → b < r1 → b ≠ g ∧ lo ≤ b ∧ b < hi ∧ ¬ (l2 ≤ b ∧ b < r2)) ∧ (∀ b, l2 ≤ b → b < r2 → b ≠ g ∧ lo ≤ b ∧ b < hi) ∧
      ∀ (w' : World) (t m p : Int) (s' t' : List Int), s'.length = es[k].seen.length → t'.length = es[k].shown.length →
        w'.heap[g]? = (((w.setCell ⟨g, k * 5, none⟩ (.int .i64 t)).setCell ⟨g, k * 5 + 1, none⟩ (.int .i64 m)).setCell ⟨g, k * 5 + 2, none⟩ (.int .i64 p)).heap[g]? →
        (∀ b, b ≠ g → ¬ (l1 ≤ b ∧ b < r1) → ¬ (l2 ≤ b ∧ b < r2) → b < w.heap.size → w'.heap[b]? = w.heap[b]?) →
        Own w' l1 r1 (.slice A1 es[k].seen.length c1) s' → Own w' l2 r2 (.slice A2 es[k].shown.length c2) t' → OwnE w' lo hi (.slice A n c) (es.set k ⟨t, m, p, s', t'⟩) := by
  rcases h with ⟨_, rfl⟩ | ⟨g, cap, cur, U, V, e0, a1, a2, hg, c1, c2, c3, hj, hdj⟩
  · exact absurd hk (by simp)
  · injection e0 with e1 e2 e3
    subst e1 e2 e3
    have hc : ∀ i, w.cell? ⟨g, i, none⟩ = cur[i]? := fun i => cell_of_row w g i cur _ _ hg
    obtain ⟨⟨x0, x1, x2, x3, x4⟩, hu, hv⟩ := hj k hk
    obtain ⟨A1, d1, eu, _, _⟩ := hu.rd
    obtain ⟨A2, d2, ev, _, _⟩ := hv.rd
    have nu := hu.ne_ent hg
    have nv := hv.ne_ent hg
    have dk := hdj.1 k hk
    obtain ⟨l1, r1, hu1, tu⟩ := hu.tight
    obtain ⟨l2, r2, hv1, tv⟩ := hv.tight
    refine ⟨g, A1, d1, A2, d2, l1, r1, l2, r2, rfl, a1, a2, (Array.getElem?_eq_some_iff.1 hg).1, ⟨_, (hc _).trans x0⟩, ⟨_, (hc _).trans x1⟩, ⟨_, (hc _).trans x2⟩, (hc _).trans (x3.trans (by rw [eu])), (hc _).trans (x4.trans (by rw [ev])), fun j => by simp [World.frozen?, hg], eu ▸ hu1, ev ▸ hv1, eu ▸ nu, ev ▸ nv, ?_, ?_, ?_⟩
    · intro b hb1 hb2
      obtain ⟨o1, o2, o3⟩ := tu b hb1 hb2
      refine ⟨fun e => nu (by rw [o1, e]), o2, o3, fun ⟨h1, h2⟩ => ?_⟩
      obtain ⟨p1, _⟩ := tv b h1 h2
      rcases dk with d | d
      · rw [o1] at d; cases d
      · exact d (by rw [o1, p1])
    · intro b hb1 hb2
      obtain ⟨o1, o2, o3⟩ := tv b hb1 hb2
      exact ⟨fun e => nv (by rw [o1, e]), o2, o3⟩
    · intro w' t m p s' t' ls lt hgw hoth hs' ht'
      rw [← eu] at hs'
      rw [← ev] at ht'
      have hbk := ((((show Bk w g _ cur from hg).set_ (k * 5) (.int .i64 t)).set_ (k * 5 + 1) (.int .i64 m)).set_ (k * 5 + 2) (.int .i64 p))
      have hcell : ∀ i, i ≠ k * 5 → i ≠ k * 5 + 1 → i ≠ k * 5 + 2 → (((cur.setIfInBounds (k * 5) (.int .i64 t)).setIfInBounds (k * 5 + 1) (.int .i64 m)).setIfInBounds (k * 5 + 2) (.int .i64 p))[i]? = cur[i]? := fun i h0 h1 h2 => by
        rw [Array.getElem?_setIfInBounds_ne (by omega), Array.getElem?_setIfInBounds_ne (by omega), Array.getElem?_setIfInBounds_ne (by omega)]
      have hkeep : ∀ {y : Value} {q : List Int}, Own w lo hi y q → Dj y (U k) → Dj y (V k) → Own w' lo hi y q := fun {y q} ho d1 d2 => by
        refine ho.keep fun b hb _ _ hlt => hoth b (fun e => ho.ne_ent hg (by rw [hb, e])) (fun ⟨h1, h2⟩ => ?_) (fun ⟨h1, h2⟩ => ?_) hlt
        · obtain ⟨o1, _⟩ := tu b h1 h2
          rcases d1 with d | d
          · rw [hb] at d; cases d
          · exact d (by rw [o1, hb])
        · obtain ⟨o1, _⟩ := tv b h1 h2
          rcases d2 with d | d
          · rw [hb] at d; cases d
          · exact d (by rw [o1, hb])
      refine .inr ⟨g, c, _, U, V, by rw [List.length_set], a1, a2, hgw.trans hbk, by rw [List.length_set]; exact c1, c2, by simpa using c3, ?_, by rw [List.length_set]; exact hdj⟩
      intro j hjl
      rw [List.length_set] at hjl
      by_cases hjk : j = k
      · subst hjk
        simp only [List.getElem_set_self]
        refine ⟨⟨by simp [Array.getElem?_setIfInBounds]; omega, by simp [Array.getElem?_setIfInBounds]; omega, by simp [Array.getElem?_setIfInBounds]; omega, (hcell _ (by omega) (by omega) (by omega)).trans x3, (hcell _ (by omega) (by omega) (by omega)).trans x4⟩, hs'.wide fun b h1 h2 => (tu b h1 h2).2, ht'.wide fun b h1 h2 => (tv b h1 h2).2⟩
      · simp only [List.getElem_set_ne (Ne.symm hjk)]
        obtain ⟨⟨y0, y1, y2, y3, y4⟩, p1, p2⟩ := hj j hjl
        have dd := hdj.2 j k hjl hk hjk
        exact ⟨⟨(hcell _ (by omega) (by omega) (by omega)).trans y0, (hcell _ (by omega) (by omega) (by omega)).trans y1, (hcell _ (by omega) (by omega) (by omega)).trans y2, (hcell _ (by omega) (by omega) (by omega)).trans y3, (hcell _ (by omega) (by omega) (by omega)).trans y4⟩, hkeep p1 dd.1 dd.2.1, hkeep p2 dd.2.2.1 dd.2.2.2⟩

/-- the marks -/
def mkEnt (e : Ent) (k : Int) : Ent := ⟨k, k + 1, k + 1 + 1, fill (k + 1 + 1 + 1) e.seen.length, fill (k + 1 + 1 + 1 + e.seen.length) e.shown.length⟩
def mkW (e : Ent) : Nat := 3 + e.seen.length + e.shown.length
def mkSum (es : List Ent) (j : Nat) : Nat := ((es.take j).map mkW).sum
theorem mkSum_zero (es : List Ent) : mkSum es 0 = 0 := by simp [mkSum]
theorem mkSum_succ (es : List Ent) (k : Nat) (h : k < es.length) : mkSum es (k + 1) = mkSum es k + mkW es[k] := by
  unfold mkSum; rw [List.take_succ_eq_append_getElem h, List.map_append, List.sum_append]; simp
theorem mkSum_psum (es : List Ent) (k : Nat) (h : k ≤ es.length) : mkSum es k = 3 * k + psum es k := by
  induction k with
  | zero => simp [mkSum, psum]
  | succ k ih => rw [mkSum_succ es k h, psum_succ es k h, ih (by omega)]; unfold mkW; omega
theorem mkSum_le (es : List Ent) (k : Nat) (h : k ≤ es.length) : mkSum es k ≤ 3 * eszL es := by
  have := mkSum_psum es k h; have := psum_le es k; unfold eszL; omega
def mkTo (es : List Ent) (k0 : Int) (j : Nat) : List Ent := es.mapIdx fun i e => if i < j then mkEnt e (k0 + mkSum es i) else e
theorem mkTo_len (es : List Ent) (k0 : Int) (j : Nat) : (mkTo es k0 j).length = es.length := by simp [mkTo]
theorem mkTo_zero (es : List Ent) (k0 : Int) : mkTo es k0 0 = es := by
  apply List.ext_getElem (by simp [mkTo])
  intro i h1 h2
  simp [mkTo]
theorem mkTo_get (es : List Ent) (k0 : Int) (k : Nat) (h : k < es.length) (h' : k < (mkTo es k0 k).length) : (mkTo es k0 k)[k] = es[k] := by simp [mkTo]
theorem mkTo_succ (es : List Ent) (k0 : Int) (k : Nat) (h : k < es.length) : (mkTo es k0 k).set k (mkEnt es[k] (k0 + mkSum es k)) = mkTo es k0 (k + 1) := by
  apply List.ext_getElem (by simp [mkTo])
  intro i h1 h2
  rw [List.getElem_set]
  by_cases e : k = i
  · subst e
    simp [mkTo]
  · rw [if_neg e]
    simp only [mkTo, List.getElem_mapIdx]
    by_cases e2 : i < k
    · rw [if_pos e2, if_pos (by omega)]
    · rw [if_neg e2, if_neg (by omega)]
def mkL (es : List Ent) (k0 : Int) : List Ent := mkTo es k0 es.length

set_option maxHeartbeats 2000000 in
theorem markEntryS_any (es : List Ent) (A : Option Addr) (c : Nat) {lo hi : Nat} (k0 : Int) (w : World) (hown : OwnE w lo hi (.slice A es.length c) es) (h0 : 0 ≤ k0) (h1 : k0 + ((3 * eszL es : Nat) : Int) ≤ 1000000000000) :
    Calls Try.prog 11 #[.slice A es.length c, .int .i64 k0] w fun e w' => e = .returned (.int .i64 (k0 + (mkSum es es.length : Nat))) ∧ OwnE w' lo hi (.slice A es.length c) (mkL es k0) ∧ Fr lo hi w w' ∧ w'.heap.size = w.heap.size := by
  have hel := esz_len es
  go_enter Try.func11, Try.ntmps11
  go_wp2
  go_loopw [1, 5] (fun q i wr => ∃ k : Nat, k ≤ es.length ∧ i = .int .i64 k ∧ q = .int .i64 (k0 + (mkSum es k : Nat)) ∧ OwnE wr lo hi (.slice A es.length c) (mkTo es k0 k) ∧ Fr lo hi w wr ∧ wr.heap.size = w.heap.size) (fun _ i _ => es.length - (intOf i).toNat)
  case atStart => exact ⟨0, Nat.zero_le _, rfl, by rw [mkSum_zero]; simp, by rw [mkTo_zero]; exact hown, Fr.refl _ _ _, rfl⟩
  case round =>
    obtain ⟨k, hk, rfl, rfl, how, hf, hs⟩ := hrel
    by_cases hlt : k < es.length
    · have hop := how.open_ (k := k) (by rw [mkTo_len]; exact hlt)
      have hg0 : Hid ((mkTo es k0 k)[k]'(by rw [mkTo_len]; exact hlt) = es[k]) := Lib.hid (mkTo_get es k0 k hlt _)
      rw [hg0.out] at hop
      obtain ⟨g, A1, c1, A2, c2, l1, r1, l2, r2, rfl, g1, g2, g3, ⟨x0, y0⟩, ⟨x1, y1⟩, ⟨x2, y2⟩, y3, y4, hfr, o1, o2, n1, n2, s1, s2, hclose⟩ := hop
      have hsum := mkSum_le es k hk
      have hsum2 := mkSum_le es (k + 1) hlt
      have hsum3 := mkSum_succ es k hlt
      have hmk := Lib.hid (mkTo_succ es k0 k hlt)
      have hw : mkW es[k] = 3 + es[k].seen.length + es[k].shown.length := rfl
      rw [hw] at hsum3
      have hH := Lib.hid hclose
      have hH1 := Lib.hid s1
      have hH2 := Lib.hid s2
      have hfH := Lib.hid hf
      have hsH := Lib.hid hs
      have f0 := hfr (k * 5)
      have f1 := hfr (k * 5 + 1)
      have f2 := hfr (k * 5 + 2)
      have f3 := hfr (k * 5 + 3)
      have f4 := hfr (k * 5 + 4)
      have hng : ¬ (l1 ≤ g ∧ g < r1) := fun h => (s1 g h.1 h.2).1 rfl
      have hng2 : ¬ (l2 ≤ g ∧ g < r2) := fun h => (s2 g h.1 h.2).1 rfl
      have hngH := Lib.hid hng
      have hngH2 := Lib.hid hng2
      clear hown how hclose s1 s2 hf hs hfr hw hng hng2
      go_wp2_with fail
      refine (markIntS_any es[k].seen A1 c1 _ _ (o1.set3 n1 _ _ _ _ _ _) (by omega) (by omega)).mono ?_
      rintro e w2 ⟨rfl, q1, fr1, z1⟩
      have z1' : w2.heap.size = wr.heap.size := by simpa [size_setCell] using z1
      have e4 : w2.cell? ⟨g, k * 5 + 4, none⟩ = some (.slice A2 es[k].shown.length c2) := by
        refine (World.cell?_of_block (fr1.block g (by simp; omega) (by have := hngH.out; omega))).trans ?_
        exact (World.cell?_setCell_other _ _ _ _ (by simp)).trans ((World.cell?_setCell_other _ _ _ _ (by simp)).trans ((World.cell?_setCell_other _ _ _ _ (by simp)).trans y4))
      have q2 : Own w2 l2 r2 (.slice A2 es[k].shown.length c2) es[k].shown := (o2.set3 n2 _ _ _ _ _ _).keep fun b _ h1 h2 h3 => fr1.block b h3 (by
        have hx := hH1.out b
        by_cases hb : l1 ≤ b ∧ b < r1
        · exact absurd ⟨h1, h2⟩ (hx hb.1 hb.2).2.2.2
        · omega)
      have fr1H := Lib.hid fr1
      have q1H := Lib.hid q1
      have z1H := Lib.hid z1'
      clear fr1 q1 z1 z1' o1 o2 y0 y1 y2 y3 y4 f0 f1 f2 f3 f4 n1
      go_wp2_with fail
      refine (markIntS_any es[k].shown A2 c2 _ _ q2 (by omega) (by omega)).mono ?_
      rintro e w3 ⟨rfl, q3, fr2, z2⟩
      have hgw := (fr2.block g (by have := z1H.out; omega) (by have := hngH2.out; omega)).trans (fr1H.out.block g (by simp; omega) (by have := hngH.out; omega))
      have q4 : Own w3 l1 r1 (.slice A1 es[k].seen.length c1) _ := q1H.out.keep fun b _ h1 h2 h3 => fr2.block b h3 (by
        have hx := hH1.out b h1 h2
        have := hx.2.2.2
        omega)
      have hoth : ∀ b, b ≠ g → ¬ (l1 ≤ b ∧ b < r1) → ¬ (l2 ≤ b ∧ b < r2) → b < wr.heap.size → w3.heap[b]? = wr.heap[b]? := fun b hb1 hb2 hb3 hb4 => by
        refine ((fr2.block b (by have := z1H.out; omega) (by omega)).trans (fr1H.out.block b (by simp; omega) (by omega))).trans ?_
        rw [Below.heap_setCell _ _ _ _ hb1, Below.heap_setCell _ _ _ _ hb1, Below.heap_setCell _ _ _ _ hb1]
      have hO := hH.out w3 _ _ _ _ _ (fill_length _ _) (fill_length _ _) hgw hoth q4 q3
      have hmk2 := hmk.out
      have hFr : Fr lo hi w w3 := (((hfH.out.setCell (p := ⟨g, _, none⟩) ⟨g1, g2⟩ _).setCell (p := ⟨g, _, none⟩) ⟨g1, g2⟩ _).setCell (p := ⟨g, _, none⟩) ⟨g1, g2⟩ _).trans ((fr1H.out.widen fun b h1 h2 => ⟨(hH1.out b h1 h2).2.1, (hH1.out b h1 h2).2.2.1⟩).trans (fr2.widen fun b h1 h2 => ⟨(hH2.out b h1 h2).2.1, (hH2.out b h1 h2).2.2⟩))
      have hsz : w3.heap.size = w.heap.size := by rw [z2, z1H.out, hsH.out]
      have hk1 : Hid (k0 + ((mkSum es (k + 1) : Nat) : Int) = k0 + ((mkSum es k : Nat) : Int) + 1 + 1 + 1 + (es[k].seen.length : Int) + (es[k].shown.length : Int)) := Lib.hid (by rw [hsum3]; omega)
      have hOH := Lib.hid hO
      have hFH := Lib.hid hFr
      have hSH := Lib.hid hsz
      clear hO hFr hsz hoth hgw q4 q3 fr2 z2 q2 e4 n2 hmk2
      go_wp2
      go_roundw
      case rel => exact ⟨k + 1, by omega, by go_num, by rw [hk1.out], by rw [← hmk.out]; exact hOH.out, hFH.out, hSH.out⟩
      case measure => simp [intOf]; omega
    · obtain rfl : k = es.length := by omega
      have howH : Hid (OwnE wr lo hi (.slice A es.length c) (mkL es k0)) := Lib.hid how
      clear how hown
      go_wp2
      go_ret
      exact ⟨rfl, howH.out, hf, hs⟩
end Go.Proofs.Yteajjbfecpffeaa
