/-
  The contract of passedOn of the drawn logs. The conditions are bounds on how often the cursor has been asked.
-/
import Derived.Test.YtjhbffndiaggmaaDoorB22
namespace Go.Proofs.YtjhbffndiaggmaaDoor
open Go.RowKit Go.ChangeShapes Go.WideShapes
set_option linter.unusedVariables false
set_option linter.unusedSimpArgs false

theorem sg_len8 {zs : List Int} (h : sgB zs = true) : 0 < zs.length ∧ zs.length ≤ 8 := by
  unfold sgB at h
  rw [Bool.and_eq_true] at h
  have := inB_iff.1 h.1
  omega
theorem alloc_size_le {w : World} {g : Nat} {t : TypeId} {cs : Array Value} (h : Bk w g t cs) (t' : TypeId) (cs' : Array Value) : w.heap.size + 1 ≤ (w.alloc (.cells cs' t')).heap.size := by simp
theorem drew_alloc_cell {w : World} {o : Obj} {p : Addr} {v : Value} (h : p.block < w.heap.size) (hc : w.drew.cell? p = some v) : (w.alloc o).drew.cell? p = some v := (World.cell?_alloc_lt w o p h).trans hc
theorem Bk.next {w : World} {g : Nat} {t : TypeId} {cs : Array Value} (h : Bk w g t cs) (t' : TypeId) (cs' : Array Value) : Bk (w.alloc (.cells cs' t')) w.heap.size t' cs' := Bk.new w t' cs'
theorem EntsOw.setCell {w : World} {lo hi : Nat} {es : List Ent} {rows : List (List Value)} (h : EntsOw w lo hi es rows) {p : Addr} (hp : p.block < lo ∨ hi ≤ p.block) (u : Value) : EntsOw (w.setCell p u) lo hi es rows := h.map fun x => x.setCell hp u
theorem EntRow.drew {w : World} {lo hi : Nat} {e : Ent} {r : List Value} (h : EntRow w lo hi e r) : EntRow w.drew lo hi e r := h
theorem l1Least_w (a b : Int) (w : World) :
    Calls Tryd.prog 53 #[.int .i64 a, .int .i64 b] w fun e w' => ∃ x : Int, e = .returned (.int .i64 x) ∧ (x = a ∨ x = b) ∧ w = w' := by
  by_cases h : a < b
  · go_enter Tryd.func53, Tryd.ntmps53
    go_wp2_with fail
    go_ret
    exact ⟨a, rfl, .inl rfl, rfl⟩
  · go_enter Tryd.func53, Tryd.ntmps53
    go_wp2_with fail
    go_ret
    exact ⟨b, rfl, .inr rfl, rfl⟩
theorem l1Own_k (zs : List Int) (A : Option Addr) (n c : Nat) {l h : Nat} (w : World) (hn : n = zs.length) (hr0 : Rd w l h A zs) (hl : zs.length ≤ 1000000000000) :
    Calls Tryd.prog 49 #[.slice A n c] w fun e w' => ∃ v, e = .returned v ∧ Own w' w.heap.size w'.heap.size v zs ∧ Below w.heap.size w w' := by
  subst hn; exact l1Own_any zs A c w hr0 hl
/-- the time of the last entry of a slice that a call has made -/
theorem po_last {w : World} {lo hi k c : Nat} {D : Option Addr} {fs : List Ent} {rows : List (List Value)} (ho : OwnR w lo hi 46 5 (.slice D k c) rows) (hr : EntsOw w lo hi fs rows) (hk : 0 < k) :
    ∃ gd t, D = some ⟨gd, 0, none⟩ ∧ lo ≤ gd ∧ gd < hi ∧ w.cell? ⟨gd, (k - 1) * 5, none⟩ = some (.int .i64 t) := by
  obtain ⟨A', c', he, -, -, -, hx⟩ := ho.cells
  injection he with e1 e2 e3
  subst e1 e2 e3
  obtain ⟨gd, rfl, h1, h2, h3, -, hcell⟩ := hx hk
  obtain ⟨u, v, hrow, -, -⟩ := hr.2 (rows.length - 1) (by have := hr.1; omega) (by omega)
  refine ⟨gd, (fs[rows.length - 1]'(by have := hr.1; omega)).time, rfl, h1, h2, ?_⟩
  have h := hcell (rows.length - 1) (by omega) 0 (by omega)
  rw [hrow] at h
  simpa using h
section
variable {w wr W : World} {g N k c la X c3 c4 d1 d2 l1 h1 l2 h2 : Nat} {A3 A4 B1 B2 D : Option Addr} {ek : Ent} {ss zs : List Int} {rows : List (List Value)} {fs : List Ent} {T : Int}
set_option maxHeartbeats 4000000 in
theorem po_store (bX : Bk W X 46 #[.int .i64 0, .int .i64 0, .int .i64 0, .slice none 0 0, .slice none 0 0]) (bE : Bk W wr.heap.size 46 #[.int .i64 ek.time, .int .i64 ek.msg, .int .i64 ek.part, .slice A3 ek.seen.length c3, .slice A4 ek.shown.length c4]) (o1 : Own W l1 h1 (.slice B1 ss.length d1) ss) (o2 : Own W l2 h2 (.slice B2 zs.length d2) zs)
    (ho : OwnR W w.heap.size wr.heap.size 46 5 (.slice D k c) rows) (hr : EntsOw W w.heap.size wr.heap.size fs rows) (hc : Cur W g N) (hF : Fr g (g + 1) w W) (hX : wr.heap.size + 1 ≤ X) (hg : g < wr.heap.size) (hs : w.heap.size ≤ wr.heap.size) (q5 : X < l1 ∨ h1 ≤ X) (q6 : X < l2 ∨ h2 ≤ X) :
    Hid (Bk (((((W.setCell ⟨X, 0, none⟩ (.int .i64 T)).setCell ⟨X, 1, none⟩ (.int .i64 ek.msg)).setCell ⟨X, 2, none⟩ (.int .i64 ek.part)).setCell ⟨X, 3, none⟩ (.slice B1 ss.length d1)).setCell ⟨X, 4, none⟩ (.slice B2 zs.length d2)) X 46 #[.int .i64 T, .int .i64 ek.msg, .int .i64 ek.part, .slice B1 ss.length d1, .slice B2 zs.length d2] ∧ Own (((((W.setCell ⟨X, 0, none⟩ (.int .i64 T)).setCell ⟨X, 1, none⟩ (.int .i64 ek.msg)).setCell ⟨X, 2, none⟩ (.int .i64 ek.part)).setCell ⟨X, 3, none⟩ (.slice B1 ss.length d1)).setCell ⟨X, 4, none⟩ (.slice B2 zs.length d2)) l1 h1 (.slice B1 ss.length d1) ss ∧ Own (((((W.setCell ⟨X, 0, none⟩ (.int .i64 T)).setCell ⟨X, 1, none⟩ (.int .i64 ek.msg)).setCell ⟨X, 2, none⟩ (.int .i64 ek.part)).setCell ⟨X, 3, none⟩ (.slice B1 ss.length d1)).setCell ⟨X, 4, none⟩ (.slice B2 zs.length d2)) l2 h2 (.slice B2 zs.length d2) zs ∧ Bk (((((W.setCell ⟨X, 0, none⟩ (.int .i64 T)).setCell ⟨X, 1, none⟩ (.int .i64 ek.msg)).setCell ⟨X, 2, none⟩ (.int .i64 ek.part)).setCell ⟨X, 3, none⟩ (.slice B1 ss.length d1)).setCell ⟨X, 4, none⟩ (.slice B2 zs.length d2)) wr.heap.size 46 #[.int .i64 ek.time, .int .i64 ek.msg, .int .i64 ek.part, .slice A3 ek.seen.length c3, .slice A4 ek.shown.length c4] ∧ OwnR (((((W.setCell ⟨X, 0, none⟩ (.int .i64 T)).setCell ⟨X, 1, none⟩ (.int .i64 ek.msg)).setCell ⟨X, 2, none⟩ (.int .i64 ek.part)).setCell ⟨X, 3, none⟩ (.slice B1 ss.length d1)).setCell ⟨X, 4, none⟩ (.slice B2 zs.length d2)) w.heap.size wr.heap.size 46 5 (.slice D k c) rows ∧ EntsOw (((((W.setCell ⟨X, 0, none⟩ (.int .i64 T)).setCell ⟨X, 1, none⟩ (.int .i64 ek.msg)).setCell ⟨X, 2, none⟩ (.int .i64 ek.part)).setCell ⟨X, 3, none⟩ (.slice B1 ss.length d1)).setCell ⟨X, 4, none⟩ (.slice B2 zs.length d2)) w.heap.size wr.heap.size fs rows ∧ Cur (((((W.setCell ⟨X, 0, none⟩ (.int .i64 T)).setCell ⟨X, 1, none⟩ (.int .i64 ek.msg)).setCell ⟨X, 2, none⟩ (.int .i64 ek.part)).setCell ⟨X, 3, none⟩ (.slice B1 ss.length d1)).setCell ⟨X, 4, none⟩ (.slice B2 zs.length d2)) g N ∧ Fr g (g + 1) w (((((W.setCell ⟨X, 0, none⟩ (.int .i64 T)).setCell ⟨X, 1, none⟩ (.int .i64 ek.msg)).setCell ⟨X, 2, none⟩ (.int .i64 ek.part)).setCell ⟨X, 3, none⟩ (.slice B1 ss.length d1)).setCell ⟨X, 4, none⟩ (.slice B2 zs.length d2))) := by
  have hXw : w.heap.size ≤ X := by omega
  refine ⟨?_, ?_, ?_, ?_, ?_, ?_, ?_, ?_⟩
  · simpa using ((((bX.set_ 0 (.int .i64 T)).set_ 1 (.int .i64 ek.msg)).set_ 2 (.int .i64 ek.part)).set_ 3 (.slice B1 ss.length d1)).set_ 4 (.slice B2 zs.length d2)
  · exact (((((o1.setCell (p := ⟨X, 0, none⟩) (by dsimp only; omega) (.int .i64 T)).setCell (p := ⟨X, 1, none⟩) (by dsimp only; omega) (.int .i64 ek.msg)).setCell (p := ⟨X, 2, none⟩) (by dsimp only; omega) (.int .i64 ek.part)).setCell (p := ⟨X, 3, none⟩) (by dsimp only; omega) (.slice B1 ss.length d1)).setCell (p := ⟨X, 4, none⟩) (by dsimp only; omega) (.slice B2 zs.length d2))
  · exact (((((o2.setCell (p := ⟨X, 0, none⟩) (by dsimp only; omega) (.int .i64 T)).setCell (p := ⟨X, 1, none⟩) (by dsimp only; omega) (.int .i64 ek.msg)).setCell (p := ⟨X, 2, none⟩) (by dsimp only; omega) (.int .i64 ek.part)).setCell (p := ⟨X, 3, none⟩) (by dsimp only; omega) (.slice B1 ss.length d1)).setCell (p := ⟨X, 4, none⟩) (by dsimp only; omega) (.slice B2 zs.length d2))
  · exact (((((bE.far (p := ⟨X, 0, none⟩) (by dsimp only; omega) (.int .i64 T)).far (p := ⟨X, 1, none⟩) (by dsimp only; omega) (.int .i64 ek.msg)).far (p := ⟨X, 2, none⟩) (by dsimp only; omega) (.int .i64 ek.part)).far (p := ⟨X, 3, none⟩) (by dsimp only; omega) (.slice B1 ss.length d1)).far (p := ⟨X, 4, none⟩) (by dsimp only; omega) (.slice B2 zs.length d2))
  · exact (((((ho.setCell (p := ⟨X, 0, none⟩) (by dsimp only; omega) (.int .i64 T)).setCell (p := ⟨X, 1, none⟩) (by dsimp only; omega) (.int .i64 ek.msg)).setCell (p := ⟨X, 2, none⟩) (by dsimp only; omega) (.int .i64 ek.part)).setCell (p := ⟨X, 3, none⟩) (by dsimp only; omega) (.slice B1 ss.length d1)).setCell (p := ⟨X, 4, none⟩) (by dsimp only; omega) (.slice B2 zs.length d2))
  · exact (((((hr.setCell (p := ⟨X, 0, none⟩) (by dsimp only; omega) (.int .i64 T)).setCell (p := ⟨X, 1, none⟩) (by dsimp only; omega) (.int .i64 ek.msg)).setCell (p := ⟨X, 2, none⟩) (by dsimp only; omega) (.int .i64 ek.part)).setCell (p := ⟨X, 3, none⟩) (by dsimp only; omega) (.slice B1 ss.length d1)).setCell (p := ⟨X, 4, none⟩) (by dsimp only; omega) (.slice B2 zs.length d2))
  · exact (((((hc.setCell (p := ⟨X, 0, none⟩) (by dsimp only; omega) (.int .i64 T)).setCell (p := ⟨X, 1, none⟩) (by dsimp only; omega) (.int .i64 ek.msg)).setCell (p := ⟨X, 2, none⟩) (by dsimp only; omega) (.int .i64 ek.part)).setCell (p := ⟨X, 3, none⟩) (by dsimp only; omega) (.slice B1 ss.length d1)).setCell (p := ⟨X, 4, none⟩) (by dsimp only; omega) (.slice B2 zs.length d2))
  · exact (((((hF.setNew (p := ⟨X, 0, none⟩) hXw (.int .i64 T)).setNew (p := ⟨X, 1, none⟩) hXw (.int .i64 ek.msg)).setNew (p := ⟨X, 2, none⟩) hXw (.int .i64 ek.part)).setNew (p := ⟨X, 3, none⟩) hXw (.slice B1 ss.length d1)).setNew (p := ⟨X, 4, none⟩) hXw (.slice B2 zs.length d2))
theorem po_far1 {W : World} {B X i k : Nat} {b v : Value} (hi : W.cell? ⟨B, i, none⟩ = some b) (hX : B + 1 ≤ X) : (W.setCell ⟨X, k, none⟩ v).cell? ⟨B, i, none⟩ = some b :=
  (World.cell?_setCell_other W ⟨X, k, none⟩ ⟨B, i, none⟩ v (fun e => by injection e with e; omega)).trans hi
theorem po_far {b : Value} {i : Nat} (hi : W.cell? ⟨wr.heap.size, i, none⟩ = some b) (hX : wr.heap.size + 1 ≤ X) (a0 a1 a2 a3 a4 : Value) : ((((((W.setCell ⟨X, 0, none⟩ a0).setCell ⟨X, 1, none⟩ a1).setCell ⟨X, 2, none⟩ a2).setCell ⟨X, 3, none⟩ a3).setCell ⟨X, 4, none⟩ a4)).cell? ⟨wr.heap.size, i, none⟩ = some b :=
  po_far1 (po_far1 (po_far1 (po_far1 (po_far1 hi hX) hX) hX) hX) hX
theorem po_alloc (bE : Bk W wr.heap.size 46 #[.int .i64 ek.time, .int .i64 ek.msg, .int .i64 ek.part, .slice A3 ek.seen.length c3, .slice A4 ek.shown.length c4]) (o1 : Own W l1 h1 (.slice B1 ss.length d1) ss) (o2 : Own W l2 h2 (.slice B2 zs.length d2) zs)
    (ho : OwnR W w.heap.size wr.heap.size 46 5 (.slice D k c) rows) (hr : EntsOw W w.heap.size wr.heap.size fs rows) (hc : Cur W g N) (hF : Fr g (g + 1) w W) :
    Hid (Bk (W.alloc (.cells #[.int .i64 T, .int .i64 ek.msg, .int .i64 ek.part, .slice B1 ss.length d1, .slice B2 zs.length d2] 46)) W.heap.size 46 #[.int .i64 T, .int .i64 ek.msg, .int .i64 ek.part, .slice B1 ss.length d1, .slice B2 zs.length d2] ∧ Own (W.alloc (.cells #[.int .i64 T, .int .i64 ek.msg, .int .i64 ek.part, .slice B1 ss.length d1, .slice B2 zs.length d2] 46)) l1 h1 (.slice B1 ss.length d1) ss ∧ Own (W.alloc (.cells #[.int .i64 T, .int .i64 ek.msg, .int .i64 ek.part, .slice B1 ss.length d1, .slice B2 zs.length d2] 46)) l2 h2 (.slice B2 zs.length d2) zs ∧ Bk (W.alloc (.cells #[.int .i64 T, .int .i64 ek.msg, .int .i64 ek.part, .slice B1 ss.length d1, .slice B2 zs.length d2] 46)) wr.heap.size 46 #[.int .i64 ek.time, .int .i64 ek.msg, .int .i64 ek.part, .slice A3 ek.seen.length c3, .slice A4 ek.shown.length c4] ∧ OwnR (W.alloc (.cells #[.int .i64 T, .int .i64 ek.msg, .int .i64 ek.part, .slice B1 ss.length d1, .slice B2 zs.length d2] 46)) w.heap.size wr.heap.size 46 5 (.slice D k c) rows ∧ EntsOw (W.alloc (.cells #[.int .i64 T, .int .i64 ek.msg, .int .i64 ek.part, .slice B1 ss.length d1, .slice B2 zs.length d2] 46)) w.heap.size wr.heap.size fs rows ∧ Cur (W.alloc (.cells #[.int .i64 T, .int .i64 ek.msg, .int .i64 ek.part, .slice B1 ss.length d1, .slice B2 zs.length d2] 46)) g N ∧ Fr g (g + 1) w (W.alloc (.cells #[.int .i64 T, .int .i64 ek.msg, .int .i64 ek.part, .slice B1 ss.length d1, .slice B2 zs.length d2] 46))) :=
  ⟨Bk.new W _ _, o1.alloc _, o2.alloc _, bE.alloc _, ho.alloc _, hr.alloc _, hc.alloc _, hF.alloc _⟩
end
set_option maxRecDepth 100000 in
set_option maxHeartbeats 16000000 in
theorem passedOn_any (g N : Nat) (es : List Ent) (A : Option Addr) (ca : Nat) {la ha : Nat} (w : World) (hc : Cur w g N) (hN : N ≤ 4611686018427350000) (hl0 : RdE w la ha A es) (hd : g < la) (hlog : logB es = true) :
    Calls Tryd.prog 34 #[.pointer (some ⟨g, 0, none⟩), .slice A es.length ca] w fun e w' => ∃ (fs : List Ent) (A : Option Addr) (c : Nat), e = .returned (.slice A fs.length c) ∧ (fs.length ≤ 31 ∧ eszL fs ≤ 600 ∧ fs.length ≤ c) ∧ RdE w' w.heap.size w'.heap.size A fs ∧ Cur w' g (N + 1000) ∧ Fr g (g + 1) w w' := by
  have hgl := hc.lt
  have hF := Fr.refl g (g + 1) w
  have hen := log_len hlog
  go_enter Tryd.func34, Tryd.ntmps34
  go_wp2_with fail
  go_loopw [5, 11] (fun u i wr => ∃ (fs : List Ent) (rows : List (List Value)) (D : Option Addr) (k c j : Nat), u = .slice D k c ∧ i = .int .i64 (j : Int) ∧ (j ≤ es.length ∧ fs.length ≤ j ∧ eszL fs ≤ 19 * fs.length) ∧ OwnR wr w.heap.size wr.heap.size 46 5 (.slice D k c) rows ∧ EntsOw wr w.heap.size wr.heap.size fs rows ∧ Cur wr g (N + 20 * j) ∧ Fr g (g + 1) w wr) (fun _ i _ => es.length - (intOf i).toNat)
  case atStart => exact ⟨[], [], none, 0, 0, 0, rfl, rfl, ⟨Nat.zero_le _, Nat.le_refl _, by rw [esz_nil]; omega⟩, OwnR.nil, EntsOw.nil, hc, hF⟩
  case round =>
    clear hc hF
    obtain ⟨fs, rows, D, k, c, j, rfl, rfl, ⟨hj, hfj, hez⟩, ho, hr, hc, hF⟩ := hrel
    have hgr := hc.lt
    have hsr := hF.size
    have hkl : k = rows.length := (ho.cells).elim fun _ h => h.elim fun _ h => by have := h.1; injection this
    have hkf : k = fs.length := by rw [hkl]; exact hr.1
    have hk30 : k ≤ 31 := by omega
    have hkfH := Lib.hid hkf
    have hklH := Lib.hid hkl
    clear hkf hkl
    by_cases hlt : j < es.length
    · obtain ⟨b0, off, hA, _, _, hcl⟩ := (hl0.fr hF (.inr (by omega))) (by omega)
      obtain ⟨A3, c3, A4, c4, x0, x1, x2, x3, x4, -, rb⟩ := hcl j hlt
      have hsh := (log_at hlog j hlt).2.2.2.2.1
      have hy1 : 0 < es[j].shown.length ∧ es[j].shown.length ≤ 8 := sg_len8 hsh
      have i0 : (0 : Int) ≤ (j : Int) := by omega
      have i1 : (j : Int) < (es.length : Int) := by omega
      subst hA
      clear hcl hsh
      obtain ⟨ek, hek⟩ : ∃ ek, ek = es[j] := ⟨_, rfl⟩
      rw [← hek] at x0 x1 x2 x3 x4 rb hy1
      clear hek
      obtain ⟨hy1, hy2⟩ := hy1
      go_wp2_with fail
      obtain ⟨w1, hw1⟩ : ∃ u, u = wr.alloc (.cells #[.int .i64 ek.time, .int .i64 ek.msg, .int .i64 ek.part, .slice A3 ek.seen.length c3, .slice A4 ek.shown.length c4] 46) := ⟨_, rfl⟩
      rw [← hw1]
      have e1 : w1.heap.size = wr.heap.size + 1 := by rw [hw1]; simp
      have s1 : wr.heap.size + 1 ≤ w1.heap.size := by omega
      have b1 : Below wr.heap.size wr w1 := by rw [hw1]; exact (Below.refl _ _).alloc (Nat.le_refl _) _
      have bE : Bk w1 (wr.heap.size) 46 #[.int .i64 ek.time, .int .i64 ek.msg, .int .i64 ek.part, .slice A3 ek.seen.length c3, .slice A4 ek.shown.length c4] := by rw [hw1]; exact Bk.new _ _ _
      replace hc := hc.st b1
      replace hF := hF.then_below b1 hF.size
      replace ho := ho.st b1
      replace hr := hr.st b1
      replace rb := rb.st b1
      replace e1 := Lib.hid e1
      clear b1 hw1
      clear x0 x1 x2 x3 x4
      (with_reducible refine (one_any g (N + 20 * j) 12 _ hc (by omega) (by omega)).mono ?_)
      rintro e w2 ⟨v, rfl, hcn, f2, z2⟩
      clear hc
      have hc := hcn
      clear hcn
      have s2 : w1.heap.size ≤ w2.heap.size := f2.size
      replace hF := hF.trans f2
      replace ho := ho.fr f2 (by omega)
      replace hr := hr.fr f2 (by omega)
      replace rb := rb.fr f2 (by omega)
      replace bE := bE.fr f2 (by omega)
      clear f2 z2
      cases v with
      | true =>
        have hall := Lib.hid (And.intro (ho.mono (Nat.le_refl _) (show _ ≤ w2.heap.size by omega)) (And.intro (hr.mono (Nat.le_refl _) (show _ ≤ w2.heap.size by omega)) (And.intro hc hF)))
        clear ho hr hc hF bE rb
        go_wp2_with fail
        go_roundw
        case rel => exact ⟨fs, rows, D, k, c, j + 1, rfl, by go_num, ⟨by omega, by omega, hez⟩, hall.out.1, hall.out.2.1, hall.out.2.2.1.le (by omega), hall.out.2.2.2⟩
        case measure => simp [intOf]; omega
      | false =>
        go_upto_region 6 with fail
        go_cut [8] (fun s8 wq => ∃ X : Nat, s8 = .pointer (some ⟨X, 0, none⟩) ∧ (wr.heap.size + 1 ≤ X ∧ X < wq.heap.size) ∧ ∃ (T : Int) (ss zs : List Int) (B1 : Option Addr) (d1 : Nat) (B2 : Option Addr) (d2 l1 h1 l2 h2 : Nat), Bk wq X 46 #[.int .i64 T, .int .i64 ek.msg, .int .i64 ek.part, .slice B1 ss.length d1, .slice B2 zs.length d2] ∧ Own wq l1 h1 (.slice B1 ss.length d1) ss ∧ Own wq l2 h2 (.slice B2 zs.length d2) zs ∧ ((wr.heap.size + 1 ≤ l1 ∧ wr.heap.size + 1 ≤ l2 ∧ h1 ≤ wq.heap.size ∧ h2 ≤ wq.heap.size) ∧ (X < l1 ∨ h1 ≤ X) ∧ (X < l2 ∨ h2 ≤ X) ∧ (h1 ≤ l2 ∨ h2 ≤ l1)) ∧ ((0 < ss.length ∧ ss.length ≤ 8) ∧ 0 < zs.length ∧ zs.length ≤ 8) ∧ Bk wq wr.heap.size 46 #[.int .i64 ek.time, .int .i64 ek.msg, .int .i64 ek.part, .slice A3 ek.seen.length c3, .slice A4 ek.shown.length c4] ∧ OwnR wq w.heap.size wr.heap.size 46 5 (.slice D k c) rows ∧ EntsOw wq w.heap.size wr.heap.size fs rows ∧ Cur wq g (N + 20 * j + 4) ∧ Fr g (g + 1) w wq)
        case first =>
          have hc0 := hc
          replace hc := hc.drew
          have hF0 := hF
          replace hF := hF.drew
          have bE0 := bE
          replace bE := bE.drew
          have ho0 := ho
          replace ho := ho.drew
          have hr0 := hr
          replace hr := hr.drew
          have rb0 := rb
          replace rb := rb.drew
          have hsxH := Lib.hid (show w2.drew.heap.size = w2.heap.size from rfl)
          have z0 : w2.drew.cell? ⟨wr.heap.size, 0, none⟩ = some (.int .i64 ek.time) := bE.cell 0
          have z1 : w2.drew.cell? ⟨wr.heap.size, 1, none⟩ = some (.int .i64 ek.msg) := bE.cell 1
          have z2 : w2.drew.cell? ⟨wr.heap.size, 2, none⟩ = some (.int .i64 ek.part) := bE.cell 2
          have z4 : w2.drew.cell? ⟨wr.heap.size, 4, none⟩ = some (.slice A4 ek.shown.length c4) := bE.cell 4
          have sd : w2.heap.size ≤ w2.drew.heap.size := Nat.le_refl _
          have hN2 : N + 20 * j + 2 ≤ 4611686018427387900 := by omega
          have hy3 : ek.shown.length ≤ 1000000000000 := by omega
          have hEg : wr.heap.size < g ∨ g + 1 ≤ wr.heap.size := .inr hgr
          have hgr' : g < wr.heap.size + 1 := by omega
          go_wp2_with fail
          go_region_held3 (fun w' => w'.cell? ⟨wr.heap.size, 0, none⟩ = some (.int .i64 ek.time) ∧ w'.cell? ⟨wr.heap.size, 1, none⟩ = some (.int .i64 ek.msg) ∧ w'.cell? ⟨wr.heap.size, 2, none⟩ = some (.int .i64 ek.part) ∧ w'.cell? ⟨wr.heap.size, 4, none⟩ = some (.slice A4 ek.shown.length c4)) (((try go_split_ands); (try dsimp only); (repeat' apply And.intro) <;> (first | with_reducible assumption | ((with_reducible refine po_far ?_ hXl _ _ _ _ _); with_reducible assumption) | ((with_reducible refine po_far ((World.cell?_alloc_lt _ _ _ bE.lt).trans ?_) bE.lt _ _ _ _ _); with_reducible assumption) | ((with_reducible refine (World.cell?_alloc_lt _ _ _ bE.lt).trans ?_); with_reducible assumption) | ((with_reducible refine drew_alloc_cell bE0.lt ?_); with_reducible assumption))))
            (first
              | (go_at_call 50; ((with_reducible refine (pick_any g (N + 20 * j + 2) 5 _ hc hN2 (by decide)).mono ?_); rintro e wa ⟨x, rfl, hx, hcn, fa, za⟩); clear hc; (have hc := hcn); clear hcn hx za; (have sa := fa.size); (replace hF := hF.trans fa); (replace bE := bE.fr fa hEg); (replace ho := ho.fr fa (.inr hgl)); (replace hr := hr.fr fa (.inr hgl)); (replace rb := rb.fr fa (.inr hd)); (try (replace o1 := o1.fr fa (.inr (Nat.lt_of_lt_of_le hgr' q1)))); (try (replace o2 := o2.fr fa (.inr (Nat.lt_of_lt_of_le hgr' q2)))); (try (replace bX := bX.fr fa (.inr (Nat.lt_of_lt_of_le hgr' hXl)))); clear fa; (have y0 : wa.cell? ⟨wr.heap.size, 0, none⟩ = some (.int .i64 ek.time) := bE.cell 0); (have y1 : wa.cell? ⟨wr.heap.size, 1, none⟩ = some (.int .i64 ek.msg) := bE.cell 1); (have y2 : wa.cell? ⟨wr.heap.size, 2, none⟩ = some (.int .i64 ek.part) := bE.cell 2); (have y4 : wa.cell? ⟨wr.heap.size, 4, none⟩ = some (.slice A4 ek.shown.length c4) := bE.cell 4); (try ((have u0 : _ = some (Value.int .i64 0) := bX.cell 0); (have v0 := bX.frozen 0); (have u1 : _ = some (Value.int .i64 0) := bX.cell 1); (have v1 := bX.frozen 1); (have u2 : _ = some (Value.int .i64 0) := bX.cell 2); (have v2 := bX.frozen 2); (have u3 : _ = some (Value.slice none 0 0) := bX.cell 3); (have v3 := bX.frozen 3); (have u4 : _ = some (Value.slice none 0 0) := bX.cell 4); (have v4 := bX.frozen 4); (have xl := bX.lt))))
              | (go_at_call 53; ((with_reducible refine (l1Least_w _ _ _).mono ?_); rintro e wb ⟨T, rfl, -, rfl⟩))
              | (go_at_call 49; (have hh := o1); clear hh; ((with_reducible refine (l1Own_any ek.shown A4 c4 _ rb hy3).mono ?_); rintro e wa ⟨u, rfl, on, ba⟩); (obtain ⟨B2, d2, rfl, -, -⟩ := on.rd); (have sa := ba.size); (replace hc := hc.st ba); (replace hF := hF.then_below ba hF.size); (replace bE := bE.st ba); (replace ho := ho.st ba); (replace hr := hr.st ba); (replace rb := rb.st ba); (replace o1 := o1.st ba); (try (replace bX := bX.st ba)); (obtain ⟨l2, h2, o2, q7, q2', q4⟩ : ∃ l2 h2, Own wa l2 h2 (.slice B2 ek.shown.length d2) ek.shown ∧ h1 ≤ l2 ∧ _ ≤ l2 ∧ h2 ≤ wa.heap.size := ⟨_, _, on, by omega, Nat.le_refl _, Nat.le_refl _⟩); (have q2 : wr.heap.size + 1 ≤ l2 := by omega); clear on ba; (have y0 : wa.cell? ⟨wr.heap.size, 0, none⟩ = some (.int .i64 ek.time) := bE.cell 0); (have y1 : wa.cell? ⟨wr.heap.size, 1, none⟩ = some (.int .i64 ek.msg) := bE.cell 1); (have y2 : wa.cell? ⟨wr.heap.size, 2, none⟩ = some (.int .i64 ek.part) := bE.cell 2); (have y4 : wa.cell? ⟨wr.heap.size, 4, none⟩ = some (.slice A4 ek.shown.length c4) := bE.cell 4); (try ((have u0 : _ = some (Value.int .i64 0) := bX.cell 0); (have v0 := bX.frozen 0); (have u1 : _ = some (Value.int .i64 0) := bX.cell 1); (have v1 := bX.frozen 1); (have u2 : _ = some (Value.int .i64 0) := bX.cell 2); (have v2 := bX.frozen 2); (have u3 : _ = some (Value.slice none 0 0) := bX.cell 3); (have v3 := bX.frozen 3); (have u4 : _ = some (Value.slice none 0 0) := bX.cell 4); (have v4 := bX.frozen 4); (have xl := bX.lt))))
              | (go_at_call 49; (have q0 : wr.heap.size + 1 ≤ _ := bE.lt); ((with_reducible refine (l1Own_any ek.shown A4 c4 _ rb hy3).mono ?_); rintro e wa ⟨u, rfl, on, ba⟩); (obtain ⟨B1, d1, rfl, -, -⟩ := on.rd); (have sa := ba.size); (replace hc := hc.st ba); (replace hF := hF.then_below ba hF.size); (replace bE := bE.st ba); (replace ho := ho.st ba); (replace hr := hr.st ba); (replace rb := rb.st ba); (try (replace bX := bX.st ba)); (obtain ⟨l1, h1, o1, q1, q1', q3⟩ : ∃ l1 h1, Own wa l1 h1 (.slice B1 ek.shown.length d1) ek.shown ∧ wr.heap.size + 1 ≤ l1 ∧ _ ≤ l1 ∧ h1 ≤ wa.heap.size := ⟨_, _, on, q0, Nat.le_refl _, Nat.le_refl _⟩); clear on ba; (have y0 : wa.cell? ⟨wr.heap.size, 0, none⟩ = some (.int .i64 ek.time) := bE.cell 0); (have y1 : wa.cell? ⟨wr.heap.size, 1, none⟩ = some (.int .i64 ek.msg) := bE.cell 1); (have y2 : wa.cell? ⟨wr.heap.size, 2, none⟩ = some (.int .i64 ek.part) := bE.cell 2); (have y4 : wa.cell? ⟨wr.heap.size, 4, none⟩ = some (.slice A4 ek.shown.length c4) := bE.cell 4); (try ((have u0 : _ = some (Value.int .i64 0) := bX.cell 0); (have v0 := bX.frozen 0); (have u1 : _ = some (Value.int .i64 0) := bX.cell 1); (have v1 := bX.frozen 1); (have u2 : _ = some (Value.int .i64 0) := bX.cell 2); (have v2 := bX.frozen 2); (have u3 : _ = some (Value.slice none 0 0) := bX.cell 3); (have v3 := bX.frozen 3); (have u4 : _ = some (Value.slice none 0 0) := bX.cell 4); (have v4 := bX.frozen 4); (have xl := bX.lt))))
              | (go_at_call 50; (have hXl : wr.heap.size + 1 ≤ _ := bE0.lt); (have bX := (bE0.next 46 #[.int .i64 0, .int .i64 0, .int .i64 0, .slice none 0 0, .slice none 0 0]).drew); (have sA : w2.heap.size + 1 ≤ (World.alloc w2 (.cells #[.int .i64 0, .int .i64 0, .int .i64 0, .slice none 0 0, .slice none 0 0] 46)).drew.heap.size := alloc_size_le bE0 46 #[.int .i64 0, .int .i64 0, .int .i64 0, .slice none 0 0, .slice none 0 0]); (replace hc := (hc0.alloc (.cells #[.int .i64 0, .int .i64 0, .int .i64 0, .slice none 0 0, .slice none 0 0] 46)).drew); (replace hF := (hF0.alloc (.cells #[.int .i64 0, .int .i64 0, .int .i64 0, .slice none 0 0, .slice none 0 0] 46)).drew); (replace ho := (ho0.alloc (.cells #[.int .i64 0, .int .i64 0, .int .i64 0, .slice none 0 0, .slice none 0 0] 46)).drew); (replace hr := (hr0.alloc (.cells #[.int .i64 0, .int .i64 0, .int .i64 0, .slice none 0 0, .slice none 0 0] 46)).drew); (replace rb := (rb0.alloc (.cells #[.int .i64 0, .int .i64 0, .int .i64 0, .slice none 0 0, .slice none 0 0] 46)).drew); (replace bE := (bE0.alloc (.cells #[.int .i64 0, .int .i64 0, .int .i64 0, .slice none 0 0, .slice none 0 0] 46)).drew); ((with_reducible refine (pick_any g (N + 20 * j + 2) 5 _ hc hN2 (by decide)).mono ?_); rintro e wa ⟨x, rfl, hx, hcn, fa, za⟩); clear hc; (have hc := hcn); clear hcn hx za; (have sa := fa.size); (replace hF := hF.trans fa); (replace bE := bE.fr fa hEg); (replace ho := ho.fr fa (.inr hgl)); (replace hr := hr.fr fa (.inr hgl)); (replace rb := rb.fr fa (.inr hd)); (try (replace o1 := o1.fr fa (.inr (Nat.lt_of_lt_of_le hgr' q1)))); (try (replace o2 := o2.fr fa (.inr (Nat.lt_of_lt_of_le hgr' q2)))); (try (replace bX := bX.fr fa (.inr (Nat.lt_of_lt_of_le hgr' hXl)))); clear fa; (have y0 : wa.cell? ⟨wr.heap.size, 0, none⟩ = some (.int .i64 ek.time) := bE.cell 0); (have y1 : wa.cell? ⟨wr.heap.size, 1, none⟩ = some (.int .i64 ek.msg) := bE.cell 1); (have y2 : wa.cell? ⟨wr.heap.size, 2, none⟩ = some (.int .i64 ek.part) := bE.cell 2); (have y4 : wa.cell? ⟨wr.heap.size, 4, none⟩ = some (.slice A4 ek.shown.length c4) := bE.cell 4); (try ((have u0 : _ = some (Value.int .i64 0) := bX.cell 0); (have v0 := bX.frozen 0); (have u1 : _ = some (Value.int .i64 0) := bX.cell 1); (have v1 := bX.frozen 1); (have u2 : _ = some (Value.int .i64 0) := bX.cell 2); (have v2 := bX.frozen 2); (have u3 : _ = some (Value.slice none 0 0) := bX.cell 3); (have v3 := bX.frozen 3); (have u4 : _ = some (Value.slice none 0 0) := bX.cell 4); (have v4 := bX.frozen 4); (have xl := bX.lt))))
              | (go_at_call 49; (have hXl : wr.heap.size + 1 ≤ _ := bE0.lt); (have bX := (bE0.next 46 #[.int .i64 0, .int .i64 0, .int .i64 0, .slice none 0 0, .slice none 0 0]).drew); (have sA : w2.heap.size + 1 ≤ (World.alloc w2 (.cells #[.int .i64 0, .int .i64 0, .int .i64 0, .slice none 0 0, .slice none 0 0] 46)).drew.heap.size := alloc_size_le bE0 46 #[.int .i64 0, .int .i64 0, .int .i64 0, .slice none 0 0, .slice none 0 0]); (replace hc := (hc0.alloc (.cells #[.int .i64 0, .int .i64 0, .int .i64 0, .slice none 0 0, .slice none 0 0] 46)).drew); (replace hF := (hF0.alloc (.cells #[.int .i64 0, .int .i64 0, .int .i64 0, .slice none 0 0, .slice none 0 0] 46)).drew); (replace ho := (ho0.alloc (.cells #[.int .i64 0, .int .i64 0, .int .i64 0, .slice none 0 0, .slice none 0 0] 46)).drew); (replace hr := (hr0.alloc (.cells #[.int .i64 0, .int .i64 0, .int .i64 0, .slice none 0 0, .slice none 0 0] 46)).drew); (replace rb := (rb0.alloc (.cells #[.int .i64 0, .int .i64 0, .int .i64 0, .slice none 0 0, .slice none 0 0] 46)).drew); (replace bE := (bE0.alloc (.cells #[.int .i64 0, .int .i64 0, .int .i64 0, .slice none 0 0, .slice none 0 0] 46)).drew); (have q0 : wr.heap.size + 1 ≤ _ := bE.lt); ((with_reducible refine (l1Own_any ek.shown A4 c4 _ rb hy3).mono ?_); rintro e wa ⟨u, rfl, on, ba⟩); (obtain ⟨B1, d1, rfl, -, -⟩ := on.rd); (have sa := ba.size); (replace hc := hc.st ba); (replace hF := hF.then_below ba hF.size); (replace bE := bE.st ba); (replace ho := ho.st ba); (replace hr := hr.st ba); (replace rb := rb.st ba); (try (replace bX := bX.st ba)); (obtain ⟨l1, h1, o1, q1, q1', q3⟩ : ∃ l1 h1, Own wa l1 h1 (.slice B1 ek.shown.length d1) ek.shown ∧ wr.heap.size + 1 ≤ l1 ∧ _ ≤ l1 ∧ h1 ≤ wa.heap.size := ⟨_, _, on, q0, Nat.le_refl _, Nat.le_refl _⟩); clear on ba; (have y0 : wa.cell? ⟨wr.heap.size, 0, none⟩ = some (.int .i64 ek.time) := bE.cell 0); (have y1 : wa.cell? ⟨wr.heap.size, 1, none⟩ = some (.int .i64 ek.msg) := bE.cell 1); (have y2 : wa.cell? ⟨wr.heap.size, 2, none⟩ = some (.int .i64 ek.part) := bE.cell 2); (have y4 : wa.cell? ⟨wr.heap.size, 4, none⟩ = some (.slice A4 ek.shown.length c4) := bE.cell 4); (try ((have u0 : _ = some (Value.int .i64 0) := bX.cell 0); (have v0 := bX.frozen 0); (have u1 : _ = some (Value.int .i64 0) := bX.cell 1); (have v1 := bX.frozen 1); (have u2 : _ = some (Value.int .i64 0) := bX.cell 2); (have v2 := bX.frozen 2); (have u3 : _ = some (Value.slice none 0 0) := bX.cell 3); (have v3 := bX.frozen 3); (have u4 : _ = some (Value.slice none 0 0) := bX.cell 4); (have v4 := bX.frozen 4); (have xl := bX.lt))))
              | (go_at_call 50; (have hXl : wr.heap.size + 1 ≤ _ := bE.lt); (have bX := bE.next 46 #[.int .i64 0, .int .i64 0, .int .i64 0, .slice none 0 0, .slice none 0 0]); (have sA : _ + 1 ≤ (World.alloc _ (.cells #[.int .i64 0, .int .i64 0, .int .i64 0, .slice none 0 0, .slice none 0 0] 46)).heap.size := alloc_size_le bE 46 #[.int .i64 0, .int .i64 0, .int .i64 0, .slice none 0 0, .slice none 0 0]); (replace hc := hc.alloc (.cells #[.int .i64 0, .int .i64 0, .int .i64 0, .slice none 0 0, .slice none 0 0] 46)); (replace hF := hF.alloc (.cells #[.int .i64 0, .int .i64 0, .int .i64 0, .slice none 0 0, .slice none 0 0] 46)); (replace ho := ho.alloc (.cells #[.int .i64 0, .int .i64 0, .int .i64 0, .slice none 0 0, .slice none 0 0] 46)); (replace hr := hr.alloc (.cells #[.int .i64 0, .int .i64 0, .int .i64 0, .slice none 0 0, .slice none 0 0] 46)); (replace rb := rb.alloc (.cells #[.int .i64 0, .int .i64 0, .int .i64 0, .slice none 0 0, .slice none 0 0] 46)); (try (replace o1 := o1.alloc (.cells #[.int .i64 0, .int .i64 0, .int .i64 0, .slice none 0 0, .slice none 0 0] 46))); (try (replace o2 := o2.alloc (.cells #[.int .i64 0, .int .i64 0, .int .i64 0, .slice none 0 0, .slice none 0 0] 46))); (replace bE := bE.alloc (.cells #[.int .i64 0, .int .i64 0, .int .i64 0, .slice none 0 0, .slice none 0 0] 46)); ((with_reducible refine (pick_any g (N + 20 * j + 2) 5 _ hc hN2 (by decide)).mono ?_); rintro e wa ⟨x, rfl, hx, hcn, fa, za⟩); clear hc; (have hc := hcn); clear hcn hx za; (have sa := fa.size); (replace hF := hF.trans fa); (replace bE := bE.fr fa hEg); (replace ho := ho.fr fa (.inr hgl)); (replace hr := hr.fr fa (.inr hgl)); (replace rb := rb.fr fa (.inr hd)); (try (replace o1 := o1.fr fa (.inr (Nat.lt_of_lt_of_le hgr' q1)))); (try (replace o2 := o2.fr fa (.inr (Nat.lt_of_lt_of_le hgr' q2)))); (try (replace bX := bX.fr fa (.inr (Nat.lt_of_lt_of_le hgr' hXl)))); clear fa; (have y0 : wa.cell? ⟨wr.heap.size, 0, none⟩ = some (.int .i64 ek.time) := bE.cell 0); (have y1 : wa.cell? ⟨wr.heap.size, 1, none⟩ = some (.int .i64 ek.msg) := bE.cell 1); (have y2 : wa.cell? ⟨wr.heap.size, 2, none⟩ = some (.int .i64 ek.part) := bE.cell 2); (have y4 : wa.cell? ⟨wr.heap.size, 4, none⟩ = some (.slice A4 ek.shown.length c4) := bE.cell 4); (try ((have u0 : _ = some (Value.int .i64 0) := bX.cell 0); (have v0 := bX.frozen 0); (have u1 : _ = some (Value.int .i64 0) := bX.cell 1); (have v1 := bX.frozen 1); (have u2 : _ = some (Value.int .i64 0) := bX.cell 2); (have v2 := bX.frozen 2); (have u3 : _ = some (Value.slice none 0 0) := bX.cell 3); (have v3 := bX.frozen 3); (have u4 : _ = some (Value.slice none 0 0) := bX.cell 4); (have v4 := bX.frozen 4); (have xl := bX.lt))))
              | (go_at_call 49; (have hXl : wr.heap.size + 1 ≤ _ := bE.lt); (have bX := bE.next 46 #[.int .i64 0, .int .i64 0, .int .i64 0, .slice none 0 0, .slice none 0 0]); (have sA : _ + 1 ≤ (World.alloc _ (.cells #[.int .i64 0, .int .i64 0, .int .i64 0, .slice none 0 0, .slice none 0 0] 46)).heap.size := alloc_size_le bE 46 #[.int .i64 0, .int .i64 0, .int .i64 0, .slice none 0 0, .slice none 0 0]); (replace hc := hc.alloc (.cells #[.int .i64 0, .int .i64 0, .int .i64 0, .slice none 0 0, .slice none 0 0] 46)); (replace hF := hF.alloc (.cells #[.int .i64 0, .int .i64 0, .int .i64 0, .slice none 0 0, .slice none 0 0] 46)); (replace ho := ho.alloc (.cells #[.int .i64 0, .int .i64 0, .int .i64 0, .slice none 0 0, .slice none 0 0] 46)); (replace hr := hr.alloc (.cells #[.int .i64 0, .int .i64 0, .int .i64 0, .slice none 0 0, .slice none 0 0] 46)); (replace rb := rb.alloc (.cells #[.int .i64 0, .int .i64 0, .int .i64 0, .slice none 0 0, .slice none 0 0] 46)); (try (replace o1 := o1.alloc (.cells #[.int .i64 0, .int .i64 0, .int .i64 0, .slice none 0 0, .slice none 0 0] 46))); (try (replace o2 := o2.alloc (.cells #[.int .i64 0, .int .i64 0, .int .i64 0, .slice none 0 0, .slice none 0 0] 46))); (replace bE := bE.alloc (.cells #[.int .i64 0, .int .i64 0, .int .i64 0, .slice none 0 0, .slice none 0 0] 46)); (have hh := o1); clear hh; ((with_reducible refine (l1Own_any ek.shown A4 c4 _ rb hy3).mono ?_); rintro e wa ⟨u, rfl, on, ba⟩); (obtain ⟨B2, d2, rfl, -, -⟩ := on.rd); (have sa := ba.size); (replace hc := hc.st ba); (replace hF := hF.then_below ba hF.size); (replace bE := bE.st ba); (replace ho := ho.st ba); (replace hr := hr.st ba); (replace rb := rb.st ba); (replace o1 := o1.st ba); (try (replace bX := bX.st ba)); (obtain ⟨l2, h2, o2, q7, q2', q4⟩ : ∃ l2 h2, Own wa l2 h2 (.slice B2 ek.shown.length d2) ek.shown ∧ h1 ≤ l2 ∧ _ ≤ l2 ∧ h2 ≤ wa.heap.size := ⟨_, _, on, by omega, Nat.le_refl _, Nat.le_refl _⟩); (have q2 : wr.heap.size + 1 ≤ l2 := by omega); clear on ba; (have y0 : wa.cell? ⟨wr.heap.size, 0, none⟩ = some (.int .i64 ek.time) := bE.cell 0); (have y1 : wa.cell? ⟨wr.heap.size, 1, none⟩ = some (.int .i64 ek.msg) := bE.cell 1); (have y2 : wa.cell? ⟨wr.heap.size, 2, none⟩ = some (.int .i64 ek.part) := bE.cell 2); (have y4 : wa.cell? ⟨wr.heap.size, 4, none⟩ = some (.slice A4 ek.shown.length c4) := bE.cell 4); (try ((have u0 : _ = some (Value.int .i64 0) := bX.cell 0); (have v0 := bX.frozen 0); (have u1 : _ = some (Value.int .i64 0) := bX.cell 1); (have v1 := bX.frozen 1); (have u2 : _ = some (Value.int .i64 0) := bX.cell 2); (have v2 := bX.frozen 2); (have u3 : _ = some (Value.slice none 0 0) := bX.cell 3); (have v3 := bX.frozen 3); (have u4 : _ = some (Value.slice none 0 0) := bX.cell 4); (have v4 := bX.frozen 4); (have xl := bX.lt))))
              | (go_at_call 49; (have hXl : wr.heap.size + 1 ≤ _ := bE.lt); (have bX := bE.next 46 #[.int .i64 0, .int .i64 0, .int .i64 0, .slice none 0 0, .slice none 0 0]); (have sA : _ + 1 ≤ (World.alloc _ (.cells #[.int .i64 0, .int .i64 0, .int .i64 0, .slice none 0 0, .slice none 0 0] 46)).heap.size := alloc_size_le bE 46 #[.int .i64 0, .int .i64 0, .int .i64 0, .slice none 0 0, .slice none 0 0]); (replace hc := hc.alloc (.cells #[.int .i64 0, .int .i64 0, .int .i64 0, .slice none 0 0, .slice none 0 0] 46)); (replace hF := hF.alloc (.cells #[.int .i64 0, .int .i64 0, .int .i64 0, .slice none 0 0, .slice none 0 0] 46)); (replace ho := ho.alloc (.cells #[.int .i64 0, .int .i64 0, .int .i64 0, .slice none 0 0, .slice none 0 0] 46)); (replace hr := hr.alloc (.cells #[.int .i64 0, .int .i64 0, .int .i64 0, .slice none 0 0, .slice none 0 0] 46)); (replace rb := rb.alloc (.cells #[.int .i64 0, .int .i64 0, .int .i64 0, .slice none 0 0, .slice none 0 0] 46)); (try (replace o1 := o1.alloc (.cells #[.int .i64 0, .int .i64 0, .int .i64 0, .slice none 0 0, .slice none 0 0] 46))); (try (replace o2 := o2.alloc (.cells #[.int .i64 0, .int .i64 0, .int .i64 0, .slice none 0 0, .slice none 0 0] 46))); (replace bE := bE.alloc (.cells #[.int .i64 0, .int .i64 0, .int .i64 0, .slice none 0 0, .slice none 0 0] 46)); (have q0 : wr.heap.size + 1 ≤ _ := bE.lt); ((with_reducible refine (l1Own_any ek.shown A4 c4 _ rb hy3).mono ?_); rintro e wa ⟨u, rfl, on, ba⟩); (obtain ⟨B1, d1, rfl, -, -⟩ := on.rd); (have sa := ba.size); (replace hc := hc.st ba); (replace hF := hF.then_below ba hF.size); (replace bE := bE.st ba); (replace ho := ho.st ba); (replace hr := hr.st ba); (replace rb := rb.st ba); (try (replace bX := bX.st ba)); (obtain ⟨l1, h1, o1, q1, q1', q3⟩ : ∃ l1 h1, Own wa l1 h1 (.slice B1 ek.shown.length d1) ek.shown ∧ wr.heap.size + 1 ≤ l1 ∧ _ ≤ l1 ∧ h1 ≤ wa.heap.size := ⟨_, _, on, q0, Nat.le_refl _, Nat.le_refl _⟩); clear on ba; (have y0 : wa.cell? ⟨wr.heap.size, 0, none⟩ = some (.int .i64 ek.time) := bE.cell 0); (have y1 : wa.cell? ⟨wr.heap.size, 1, none⟩ = some (.int .i64 ek.msg) := bE.cell 1); (have y2 : wa.cell? ⟨wr.heap.size, 2, none⟩ = some (.int .i64 ek.part) := bE.cell 2); (have y4 : wa.cell? ⟨wr.heap.size, 4, none⟩ = some (.slice A4 ek.shown.length c4) := bE.cell 4); (try ((have u0 : _ = some (Value.int .i64 0) := bX.cell 0); (have v0 := bX.frozen 0); (have u1 : _ = some (Value.int .i64 0) := bX.cell 1); (have v1 := bX.frozen 1); (have u2 : _ = some (Value.int .i64 0) := bX.cell 2); (have v2 := bX.frozen 2); (have u3 : _ = some (Value.slice none 0 0) := bX.cell 3); (have v3 := bX.frozen 3); (have u4 : _ = some (Value.slice none 0 0) := bX.cell 4); (have v4 := bX.frozen 4); (have xl := bX.lt)))))
          all_goals first
            | (have hXs := bX.lt; have hall := po_store (T := T) bX bE o1 o2 ho hr hc hF hXl hgr hsr (by omega) (by omega); clear bX o1 o2 bE ho hr hc hF rb bE0 hc0 hF0 ho0 hr0 rb0; go_wp2_with fail; go_meet; case rel => (exact ⟨_, rfl, ⟨by omega, by (simp only [size_setCell]; omega)⟩, T, ek.shown, ek.shown, B1, d1, B2, d2, l1, h1, l2, h2, hall.out.1, hall.out.2.1, hall.out.2.2.1, ⟨⟨by omega, by omega, by (simp only [size_setCell, World.size_alloc]; omega), by (simp only [size_setCell, World.size_alloc]; omega)⟩, by omega, by omega, by omega⟩, ⟨⟨hy1, hy2⟩, hy1, hy2⟩, hall.out.2.2.2.1, hall.out.2.2.2.2.1, hall.out.2.2.2.2.2.1, (hall.out.2.2.2.2.2.2.1).le (by omega), hall.out.2.2.2.2.2.2.2⟩))
            | (have hXl := bE.lt; have hall := po_alloc (T := T) bE o1 o2 ho hr hc hF; clear o1 o2 bE ho hr hc hF rb bE0 hc0 hF0 ho0 hr0 rb0; go_wp2_with fail; go_meet; case rel => (exact ⟨_, rfl, ⟨by omega, by simp⟩, T, ek.shown, ek.shown, B1, d1, B2, d2, l1, h1, l2, h2, hall.out.1, hall.out.2.1, hall.out.2.2.1, ⟨⟨by omega, by omega, by (simp only [size_setCell, World.size_alloc]; omega), by (simp only [size_setCell, World.size_alloc]; omega)⟩, by omega, by omega, by omega⟩, ⟨⟨hy1, hy2⟩, hy1, hy2⟩, hall.out.2.2.2.1, hall.out.2.2.2.2.1, hall.out.2.2.2.2.2.1, (hall.out.2.2.2.2.2.2.1).le (by omega), hall.out.2.2.2.2.2.2.2⟩))
        case rest =>
          clear bE rb ho hr hc hF
          obtain ⟨X, rfl, ⟨hX1, hX2'⟩, T, ss, zs, B1, d1, B2, d2, l1, h1, l2, h2, bX, o1, o2, ⟨⟨q1, q2, q3, q4⟩, q5, q6, q7⟩, ⟨⟨y1, y2⟩, y3, y4⟩, bE, ho, hr, hc, hF⟩ := hcut
          obtain ⟨wa0, rfl⟩ : ∃ u, u = wc := ⟨_, rfl⟩
          have hX2 := bX.lt
          have hEl := bE.lt
          have hgr' : g < wr.heap.size + 1 := by omega
          have hgX : g + 1 ≤ X := by omega
          have hgE : g + 1 ≤ wr.heap.size := by omega
          clear hX2' hy1 hy2
          go_wp2_with fail
          (with_reducible refine (one_any g (N + 20 * j + 4) 12 _ hc (by omega) (by omega)).mono ?_)
          rintro e w3 ⟨v, rfl, hcn, f3, z3⟩
          clear hc
          have hc := hcn
          clear hcn
          have s3 : wa0.heap.size ≤ w3.heap.size := f3.size
          replace hF := hF.trans f3
          replace bX := bX.fr f3 (by omega)
          replace bE := bE.fr f3 (by omega)
          replace o1 := o1.fr f3 (by omega)
          replace o2 := o2.fr f3 (by omega)
          replace ho := ho.fr f3 (by omega)
          replace hr := hr.fr f3 (by omega)
          clear f3 z3
          go_upto_if 35 with fail
          go_cut [] (fun wq => ∃ (T : Int) (ss zs : List Int) (B1 : Option Addr) (d1 : Nat) (B2 : Option Addr) (d2 l1 h1 l2 h2 : Nat), Bk wq X 46 #[.int .i64 T, .int .i64 ek.msg, .int .i64 ek.part, .slice B1 ss.length d1, .slice B2 zs.length d2] ∧ Own wq l1 h1 (.slice B1 ss.length d1) ss ∧ Own wq l2 h2 (.slice B2 zs.length d2) zs ∧ ((wr.heap.size + 1 ≤ l1 ∧ wr.heap.size + 1 ≤ l2 ∧ h1 ≤ wq.heap.size ∧ h2 ≤ wq.heap.size) ∧ (X < l1 ∨ h1 ≤ X) ∧ (X < l2 ∨ h2 ≤ X) ∧ (h1 ≤ l2 ∨ h2 ≤ l1)) ∧ ((0 < ss.length ∧ ss.length ≤ 8) ∧ 0 < zs.length ∧ zs.length ≤ 8) ∧ Bk wq wr.heap.size 46 #[.int .i64 ek.time, .int .i64 ek.msg, .int .i64 ek.part, .slice A3 ek.seen.length c3, .slice A4 ek.shown.length c4] ∧ OwnR wq w.heap.size wr.heap.size 46 5 (.slice D k c) rows ∧ EntsOw wq w.heap.size wr.heap.size fs rows ∧ Cur wq g (N + 20 * j + 8) ∧ Fr g (g + 1) w wq)
          case first =>
            cases v with
            | false =>
              have hall := Lib.hid (And.intro bX (And.intro o1 (And.intro o2 (And.intro bE (And.intro ho (And.intro hr (And.intro hc hF)))))))
              clear bX o1 o2 bE ho hr hc hF
              go_wp2_with fail
              go_meet
              case rel => exact ⟨T, ss, zs, B1, d1, B2, d2, l1, h1, l2, h2, hall.out.1, hall.out.2.1, hall.out.2.2.1, ⟨⟨q1, q2, by omega, by omega⟩, q5, q6, q7⟩, ⟨⟨y1, y2⟩, y3, y4⟩, hall.out.2.2.2.1, hall.out.2.2.2.2.1, hall.out.2.2.2.2.2.1, (hall.out.2.2.2.2.2.2.1).le (by omega), hall.out.2.2.2.2.2.2.2⟩
            | true =>
              obtain ⟨gg, cc, he, hg1, hg3, hg2, -, -⟩ := o1.at_ y1
              have he2 : B1 = some ⟨gg, 0, none⟩ := by injection he with e1 e2 e3
              subst he2
              clear he
              have x3 := bX.cell 3
              simp at x3
              replace bX := bX.drew
              replace o1 := o1.drew
              replace o2 := o2.drew
              replace bE := bE.drew
              replace ho := ho.drew
              replace hr := hr.drew
              replace hc := hc.drew
              replace hF := hF.drew
              have sd : w3.heap.size ≤ w3.drew.heap.size := Nat.le_refl _
              have hN3 : N + 20 * j + 6 ≤ 4611686018427387900 := by omega
              go_wp2_with fail
              go_region_held3 (fun w' => w'.cell? ⟨X, 3, none⟩ = some (.slice (some ⟨gg, 0, none⟩) ss.length d1)) (((try go_split_ands); (try dsimp only); (repeat' apply And.intro) <;> (first | assumption | (simp only [*]; done) | ((refine (World.cell?_setCell_other _ _ _ _ (fun e => by injection e with e; omega)).trans ?_); assumption) | ((refine (World.cell?_alloc_lt _ _ _ (by first | assumption | (simp <;> omega))).trans ?_); assumption))))
                (first | (go_at_call 50; ((with_reducible refine (pick_any g (N + 20 * j + 6) 64 _ hc hN3 (by decide)).mono ?_); rintro e wa ⟨jv, rfl, hj64, hcn, fa, za⟩); clear hc; (have hc := hcn); clear hcn za; (have sa := fa.size); (replace hF := hF.trans fa); (replace bX := bX.fr fa (.inr hgX)); (replace bE := bE.fr fa (.inr hgE)); (replace ho := ho.fr fa (.inr hgl)); (replace hr := hr.fr fa (.inr hgl)); (replace o1 := o1.fr fa (.inr (Nat.lt_of_lt_of_le hgr' q1))); (replace o2 := o2.fr fa (.inr (Nat.lt_of_lt_of_le hgr' q2))); clear fa; (have x3 := bX.cell 3); (simp at x3); (have x0 := o1.at2 y1); (obtain ⟨x0, x1, -⟩ := x0)))
              all_goals
                clear x3 hj64
                try (clear x3)
                try (clear hHeld)
                skip
                obtain ⟨w4, hw4⟩ : ∃ u, u = wa.setCell ⟨gg, 0, none⟩ (.int .i64 jv) := ⟨_, rfl⟩
                rw [← hw4]
                have e4 : w4.heap.size = wa.heap.size := by rw [hw4, size_setCell]
                replace hF := hF.setNew (p := ⟨gg, 0, none⟩) (by dsimp only; omega) (.int .i64 jv)
                rw [← hw4] at hF
                replace bX := bX.far (p := ⟨gg, 0, none⟩) (by dsimp only; omega) (.int .i64 jv)
                rw [← hw4] at bX
                replace bE := bE.far (p := ⟨gg, 0, none⟩) (by dsimp only; omega) (.int .i64 jv)
                rw [← hw4] at bE
                replace o1 := o1.stored (j := 0) jv
                rw [← hw4] at o1
                replace o2 := o2.setCell (p := ⟨gg, 0, none⟩) (by dsimp only; omega) (.int .i64 jv)
                rw [← hw4] at o2
                replace ho := ho.setCell (p := ⟨gg, 0, none⟩) (by dsimp only; omega) (.int .i64 jv)
                rw [← hw4] at ho
                replace hr := hr.setCell (p := ⟨gg, 0, none⟩) (by dsimp only; omega) (.int .i64 jv)
                rw [← hw4] at hr
                replace hc := hc.setCell (p := ⟨gg, 0, none⟩) (by dsimp only; omega) (.int .i64 jv)
                rw [← hw4] at hc
                have s4 : wa.heap.size ≤ w4.heap.size := by omega
                clear hw4
                obtain ⟨ss2, hs2, hl2⟩ : ∃ u, u = ss.set 0 jv ∧ ss.length = u.length := ⟨_, rfl, by simp⟩
                rw [← hs2] at o1
                have hl2H := Lib.hid hl2
                clear hs2 hl2 x0 x1
                have x3 := bX.cell 3
                simp at x3
                go_wp2_with fail
                (with_reducible refine (l1Own_k ss2 (some ⟨gg, 0, none⟩) ss.length d1 _ hl2H.out o1.rd' (by have := hl2H.out; omega)).mono ?_)
                rintro e w5 ⟨u, rfl, on, b5⟩
                have s5 : w4.heap.size ≤ w5.heap.size := b5.size
                replace hF := hF.then_below b5 hF.size
                replace bX := bX.st b5
                replace bE := bE.st b5
                replace o1 := o1.st b5
                replace o2 := o2.st b5
                replace ho := ho.st b5
                replace hr := hr.st b5
                replace hc := hc.st b5
                clear b5
                obtain ⟨B3, d3, rfl, -, -⟩ := on.rd
                clear o2 x3
                have x4 := bX.cell 4
                have f4 := bX.frozen 4
                simp at x4
                go_wp2_with fail
                obtain ⟨w6, hw6⟩ : ∃ u, u = w5.setCell ⟨X, 4, none⟩ (.slice B3 ss2.length d3) := ⟨_, rfl⟩
                rw [← hw6]
                have e6 : w6.heap.size = w5.heap.size := by rw [hw6, size_setCell]
                replace hF := hF.setNew (p := ⟨X, 4, none⟩) (by dsimp only; omega) (.slice B3 ss2.length d3)
                rw [← hw6] at hF
                replace bX : Bk w6 (X) 46 #[.int .i64 T, .int .i64 ek.msg, .int .i64 ek.part, .slice (some ⟨gg, 0, none⟩) ss.length d1, .slice B3 ss2.length d3] := by rw [hw6]; simpa using bX.set_ 4 (.slice B3 ss2.length d3)
                replace bE := bE.far (p := ⟨X, 4, none⟩) (by dsimp only; omega) (.slice B3 ss2.length d3)
                rw [← hw6] at bE
                replace o1 := o1.setCell (p := ⟨X, 4, none⟩) (by dsimp only; omega) (.slice B3 ss2.length d3)
                rw [← hw6] at o1
                replace ho := ho.setCell (p := ⟨X, 4, none⟩) (by dsimp only; omega) (.slice B3 ss2.length d3)
                rw [← hw6] at ho
                replace hr := hr.setCell (p := ⟨X, 4, none⟩) (by dsimp only; omega) (.slice B3 ss2.length d3)
                rw [← hw6] at hr
                replace hc := hc.setCell (p := ⟨X, 4, none⟩) (by dsimp only; omega) (.slice B3 ss2.length d3)
                rw [← hw6] at hc
                replace on := on.setCell (p := ⟨X, 4, none⟩) (by dsimp only; omega) (.slice B3 ss2.length d3)
                rw [← hw6] at on
                have s6 : w5.heap.size ≤ w6.heap.size := by omega
                clear hw6
                have hl2 := hl2H.out
                rw [hl2] at bX o1 y1 y2
                clear hl2 x4 f4
                have o2 := on
                clear on
                have hall := Lib.hid (And.intro bX (And.intro o1 (And.intro o2 (And.intro bE (And.intro ho (And.intro hr (And.intro hc hF)))))))
                clear bX o1 o2 bE ho hr hc hF
                go_meet
                case rel => exact ⟨T, ss2, ss2, some ⟨gg, 0, none⟩, d1, B3, d3, l1, h1, _, _, hall.out.1, hall.out.2.1, hall.out.2.2.1, ⟨⟨q1, by omega, by omega, by omega⟩, q5, by omega, by omega⟩, ⟨⟨y1, y2⟩, y1, y2⟩, hall.out.2.2.2.1, hall.out.2.2.2.2.1, hall.out.2.2.2.2.2.1, (hall.out.2.2.2.2.2.2.1).le (by omega), hall.out.2.2.2.2.2.2.2⟩
          case rest =>
            clear bX o1 o2 bE ho hr hc hF q1 q2 q3 q4 q5 q6 q7 y1 y2 y3 y4
            obtain ⟨T, ss, zs, B1, d1, B2, d2, l1, h1, l2, h2, bX, o1, o2, ⟨⟨q1, q2, q3, q4⟩, q5, q6, q7⟩, ⟨⟨y1, y2⟩, y3, y4⟩, bE, ho, hr, hc, hF⟩ := hcut
            obtain ⟨wa1, rfl⟩ : ∃ u, u = wc := ⟨_, rfl⟩
            have hX2 := bX.lt
            have hEl := bE.lt
            go_wp2_with fail
            (with_reducible refine (one_any g (N + 20 * j + 8) 12 _ hc (by omega) (by omega)).mono ?_)
            rintro e w7 ⟨v, rfl, hcn, f7, z7⟩
            clear hc
            have hc := hcn
            clear hcn
            have s7 : wa1.heap.size ≤ w7.heap.size := f7.size
            replace hF := hF.trans f7
            replace bX := bX.fr f7 (by omega)
            replace bE := bE.fr f7 (by omega)
            replace o1 := o1.fr f7 (by omega)
            replace o2 := o2.fr f7 (by omega)
            replace ho := ho.fr f7 (by omega)
            replace hr := hr.fr f7 (by omega)
            clear f7 z7
            go_upto_if 46 with fail
            go_cut [] (fun wq => ∃ (T : Int) (ss zs : List Int) (B1 : Option Addr) (d1 : Nat) (B2 : Option Addr) (d2 l1 h1 l2 h2 : Nat), Bk wq X 46 #[.int .i64 T, .int .i64 ek.msg, .int .i64 ek.part, .slice B1 ss.length d1, .slice B2 zs.length d2] ∧ Own wq l1 h1 (.slice B1 ss.length d1) ss ∧ Own wq l2 h2 (.slice B2 zs.length d2) zs ∧ ((wr.heap.size + 1 ≤ l1 ∧ wr.heap.size + 1 ≤ l2 ∧ h1 ≤ wq.heap.size ∧ h2 ≤ wq.heap.size) ∧ (X < l1 ∨ h1 ≤ X) ∧ (X < l2 ∨ h2 ≤ X) ∧ (h1 ≤ l2 ∨ h2 ≤ l1)) ∧ ((0 < ss.length ∧ ss.length ≤ 8) ∧ 0 < zs.length ∧ zs.length ≤ 8) ∧ Bk wq wr.heap.size 46 #[.int .i64 ek.time, .int .i64 ek.msg, .int .i64 ek.part, .slice A3 ek.seen.length c3, .slice A4 ek.shown.length c4] ∧ OwnR wq w.heap.size wr.heap.size 46 5 (.slice D k c) rows ∧ EntsOw wq w.heap.size wr.heap.size fs rows ∧ Cur wq g (N + 20 * j + 12) ∧ Fr g (g + 1) w wq)
            case first =>
              cases v with
              | false =>
                have hall := Lib.hid (And.intro bX (And.intro o1 (And.intro o2 (And.intro bE (And.intro ho (And.intro hr (And.intro hc hF)))))))
                clear bX o1 o2 bE ho hr hc hF
                go_wp2_with fail
                go_meet
                case rel => exact ⟨T, ss, zs, B1, d1, B2, d2, l1, h1, l2, h2, hall.out.1, hall.out.2.1, hall.out.2.2.1, ⟨⟨q1, q2, by omega, by omega⟩, q5, q6, q7⟩, ⟨⟨y1, y2⟩, y3, y4⟩, hall.out.2.2.2.1, hall.out.2.2.2.2.1, hall.out.2.2.2.2.2.1, (hall.out.2.2.2.2.2.2.1).le (by omega), hall.out.2.2.2.2.2.2.2⟩
              | true =>
                obtain ⟨gg, cc, he, hg1, hg3, hg2, -, -⟩ := o2.at_ y3
                have he2 : B2 = some ⟨gg, 0, none⟩ := by injection he with e1 e2 e3
                subst he2
                clear he
                obtain ⟨n2, hn2⟩ : ∃ n, n = zs.length := ⟨_, rfl⟩
                have hn2H := Lib.hid hn2
                rw [← hn2] at bX o2 y3 y4
                clear hn2
                have x4 := bX.cell 4
                simp at x4
                replace bX := bX.drew
                replace o1 := o1.drew
                replace o2 := o2.drew
                replace bE := bE.drew
                replace ho := ho.drew
                replace hr := hr.drew
                replace hc := hc.drew
                replace hF := hF.drew
                have sd : w7.heap.size ≤ w7.drew.heap.size := Nat.le_refl _
                have hN3 : N + 20 * j + 10 ≤ 4611686018427387900 := by omega
                have hn3 : n2 - 1 < zs.length := by have := hn2H.out; omega
                have i0 : (1 : Int) ≤ (n2 : Int) := by omega
                have i1 : (n2 : Int) - 1 < (n2 : Int) := by omega
                have i2 : ((n2 : Int) - 1).toNat = n2 - 1 := by omega
                have i3 : IntKind.i64.wrap ((n2 : Int) - 1) = (n2 : Int) - 1 := IntWalk.i64_in _ (by omega)
                go_wp2_with fail
                go_region_held3 (fun w' => w'.cell? ⟨X, 4, none⟩ = some (.slice (some ⟨gg, 0, none⟩) n2 d2)) (((try go_split_ands); (try dsimp only); (repeat' apply And.intro) <;> (first | assumption | (simp only [*]; done) | ((refine (World.cell?_setCell_other _ _ _ _ (fun e => by injection e with e; omega)).trans ?_); assumption) | ((refine (World.cell?_alloc_lt _ _ _ (by first | assumption | (simp <;> omega))).trans ?_); assumption))))
                  (first | (go_at_call 50; ((with_reducible refine (pick_any g (N + 20 * j + 10) 64 _ hc hN3 (by decide)).mono ?_); rintro e wa ⟨jv, rfl, hj64, hcn, fa, za⟩); clear hc; (have hc := hcn); clear hcn za; (have sa := fa.size); (replace hF := hF.trans fa); (replace bX := bX.fr fa (.inr hgX)); (replace bE := bE.fr fa (.inr hgE)); (replace ho := ho.fr fa (.inr hgl)); (replace hr := hr.fr fa (.inr hgl)); (replace o1 := o1.fr fa (.inr (Nat.lt_of_lt_of_le hgr' q1))); (replace o2 := o2.fr fa (.inr (Nat.lt_of_lt_of_le hgr' q2))); clear fa; (have x4 := bX.cell 4); (simp at x4); (have x0 := o2.at2 hn3); (obtain ⟨x0, x1, -⟩ := x0)))
                all_goals
                  clear x4 hj64 i0 i1 i2 i3
                  obtain ⟨w8, hw8⟩ : ∃ u, u = wa.setCell ⟨gg, n2 - 1, none⟩ (.int .i64 jv) := ⟨_, rfl⟩
                  rw [← hw8]
                  have e8 : w8.heap.size = wa.heap.size := by rw [hw8, size_setCell]
                  replace hF := hF.setNew (p := ⟨gg, n2 - 1, none⟩) (by dsimp only; omega) (.int .i64 jv)
                  rw [← hw8] at hF
                  replace bX := bX.far (p := ⟨gg, n2 - 1, none⟩) (by dsimp only; omega) (.int .i64 jv)
                  rw [← hw8] at bX
                  replace bE := bE.far (p := ⟨gg, n2 - 1, none⟩) (by dsimp only; omega) (.int .i64 jv)
                  rw [← hw8] at bE
                  replace o1 := o1.setCell (p := ⟨gg, n2 - 1, none⟩) (by dsimp only; omega) (.int .i64 jv)
                  rw [← hw8] at o1
                  replace o2 := o2.stored (j := n2 - 1) jv
                  rw [← hw8] at o2
                  replace ho := ho.setCell (p := ⟨gg, n2 - 1, none⟩) (by dsimp only; omega) (.int .i64 jv)
                  rw [← hw8] at ho
                  replace hr := hr.setCell (p := ⟨gg, n2 - 1, none⟩) (by dsimp only; omega) (.int .i64 jv)
                  rw [← hw8] at hr
                  replace hc := hc.setCell (p := ⟨gg, n2 - 1, none⟩) (by dsimp only; omega) (.int .i64 jv)
                  rw [← hw8] at hc
                  have s8 : wa.heap.size ≤ w8.heap.size := by omega
                  clear hw8
                  obtain ⟨zs2, hs2, hl2⟩ : ∃ u, u = zs.set (n2 - 1) jv ∧ zs.length = u.length := ⟨_, rfl, by simp⟩
                  rw [← hs2] at o2
                  have hl3 : n2 = zs2.length := hn2H.out.trans hl2
                  rw [hl3] at bX o2 y3 y4
                  clear hs2 hl2 x0 x1 hn3 hl3
                  have hall := Lib.hid (And.intro bX (And.intro o1 (And.intro o2 (And.intro bE (And.intro ho (And.intro hr (And.intro hc hF)))))))
                  clear bX o1 o2 bE ho hr hc hF
                  go_wp2_with fail
                  go_meet
                  case rel => exact ⟨T, ss, zs2, B1, d1, some ⟨gg, 0, none⟩, d2, l1, h1, l2, h2, hall.out.1, hall.out.2.1, hall.out.2.2.1, ⟨⟨q1, q2, by omega, by omega⟩, q5, q6, q7⟩, ⟨⟨y1, y2⟩, y3, y4⟩, hall.out.2.2.2.1, hall.out.2.2.2.2.1, hall.out.2.2.2.2.2.1, (hall.out.2.2.2.2.2.2.1).le (by omega), hall.out.2.2.2.2.2.2.2⟩
            case rest =>
              clear bX o1 o2 bE ho hr hc hF q1 q2 q3 q4 q5 q6 q7 y1 y2 y3 y4
              obtain ⟨T, ss, zs, B1, d1, B2, d2, l1, h1, l2, h2, bX, o1, o2, ⟨⟨q1, q2, q3, q4⟩, q5, q6, q7⟩, ⟨⟨y1, y2⟩, y3, y4⟩, bE, ho, hr, hc, hF⟩ := hcut
              obtain ⟨wa2, rfl⟩ : ∃ u, u = wc := ⟨_, rfl⟩
              have hX2 := bX.lt
              have hEl := bE.lt
              go_wp2_with fail
              (with_reducible refine (one_any g (N + 20 * j + 12) 16 _ hc (by omega) (by omega)).mono ?_)
              rintro e w9 ⟨v, rfl, hcn, f9, z9⟩
              clear hc
              have hc := hcn
              clear hcn
              have s9 : wa2.heap.size ≤ w9.heap.size := f9.size
              replace hF := hF.trans f9
              replace bX := bX.fr f9 (by omega)
              replace bE := bE.fr f9 (by omega)
              replace o1 := o1.fr f9 (by omega)
              replace o2 := o2.fr f9 (by omega)
              replace ho := ho.fr f9 (by omega)
              replace hr := hr.fr f9 (by omega)
              clear f9 z9
              go_upto_if 57 with fail
              go_cut [] (fun wq => ∃ (T : Int) (ss zs : List Int) (B1 : Option Addr) (d1 : Nat) (B2 : Option Addr) (d2 l1 h1 l2 h2 : Nat), Bk wq X 46 #[.int .i64 T, .int .i64 ek.msg, .int .i64 ek.part, .slice B1 ss.length d1, .slice B2 zs.length d2] ∧ Own wq l1 h1 (.slice B1 ss.length d1) ss ∧ Own wq l2 h2 (.slice B2 zs.length d2) zs ∧ ((wr.heap.size + 1 ≤ l1 ∧ wr.heap.size + 1 ≤ l2 ∧ h1 ≤ wq.heap.size ∧ h2 ≤ wq.heap.size) ∧ (X < l1 ∨ h1 ≤ X) ∧ (X < l2 ∨ h2 ≤ X) ∧ (h1 ≤ l2 ∨ h2 ≤ l1)) ∧ ((0 < ss.length ∧ ss.length ≤ 8) ∧ 0 < zs.length ∧ zs.length ≤ 8) ∧ Bk wq wr.heap.size 46 #[.int .i64 ek.time, .int .i64 ek.msg, .int .i64 ek.part, .slice A3 ek.seen.length c3, .slice A4 ek.shown.length c4] ∧ OwnR wq w.heap.size wr.heap.size 46 5 (.slice D k c) rows ∧ EntsOw wq w.heap.size wr.heap.size fs rows ∧ Cur wq g (N + 20 * j + 16) ∧ Fr g (g + 1) w wq)
              case first =>
                cases v with
                | false =>
                  have hall := Lib.hid (And.intro bX (And.intro o1 (And.intro o2 (And.intro bE (And.intro ho (And.intro hr (And.intro hc hF)))))))
                  clear bX o1 o2 bE ho hr hc hF
                  go_wp2_with fail
                  go_meet
                  case rel => exact ⟨T, ss, zs, B1, d1, B2, d2, l1, h1, l2, h2, hall.out.1, hall.out.2.1, hall.out.2.2.1, ⟨⟨q1, q2, by omega, by omega⟩, q5, q6, q7⟩, ⟨⟨y1, y2⟩, y3, y4⟩, hall.out.2.2.2.1, hall.out.2.2.2.2.1, hall.out.2.2.2.2.2.1, (hall.out.2.2.2.2.2.2.1).le (by omega), hall.out.2.2.2.2.2.2.2⟩
                | true =>
                  have x0 := bE.cell 0
                  simp at x0
                  replace bX := bX.drew
                  replace o1 := o1.drew
                  replace o2 := o2.drew
                  replace bE := bE.drew
                  replace ho := ho.drew
                  replace hr := hr.drew
                  replace hc := hc.drew
                  replace hF := hF.drew
                  have sd : w9.heap.size ≤ w9.drew.heap.size := Nat.le_refl _
                  have hN3 : N + 20 * j + 14 ≤ 4611686018427387900 := by omega
                  go_wp2_with fail
                  go_region_held3 (fun w' => w'.cell? ⟨wr.heap.size, 0, none⟩ = some (.int .i64 ek.time)) (((try go_split_ands); (try dsimp only); (repeat' apply And.intro) <;> (first | assumption | (simp only [*]; done) | ((refine (World.cell?_setCell_other _ _ _ _ (fun e => by injection e with e; omega)).trans ?_); assumption) | ((refine (World.cell?_alloc_lt _ _ _ (by first | assumption | (simp <;> omega))).trans ?_); assumption))))
                    (first | (go_at_call 50; ((with_reducible refine (pick_any g (N + 20 * j + 14) 3 _ hc hN3 (by decide)).mono ?_); rintro e wa ⟨jv, rfl, hj64, hcn, fa, za⟩); clear hc; (have hc := hcn); clear hcn za; (have sa := fa.size); (replace hF := hF.trans fa); (replace bX := bX.fr fa (.inr hgX)); (replace bE := bE.fr fa (.inr hgE)); (replace ho := ho.fr fa (.inr hgl)); (replace hr := hr.fr fa (.inr hgl)); (replace o1 := o1.fr fa (.inr (Nat.lt_of_lt_of_le hgr' q1))); (replace o2 := o2.fr fa (.inr (Nat.lt_of_lt_of_le hgr' q2))); clear fa; (have x0 := bE.cell 0); (simp at x0); (have z0 := bX.cell 0); (simp at z0); (have v0 := bX.frozen 0); (have zl := bX.lt)) | (go_at_call 54; ((with_reducible refine (l1Most_w _ _ _).mono ?_); rintro e wb ⟨T2, rfl, -, rfl⟩)))
                  all_goals
                    clear x0 hj64 z0 v0 zl
                    obtain ⟨w10, hw10⟩ : ∃ u, u = wa.setCell ⟨X, 0, none⟩ (.int .i64 T2) := ⟨_, rfl⟩
                    rw [← hw10]
                    have e10 : w10.heap.size = wa.heap.size := by rw [hw10, size_setCell]
                    replace hF := hF.setNew (p := ⟨X, 0, none⟩) (by dsimp only; omega) (.int .i64 T2)
                    rw [← hw10] at hF
                    replace bX : Bk w10 (X) 46 #[.int .i64 T2, .int .i64 ek.msg, .int .i64 ek.part, .slice B1 ss.length d1, .slice B2 zs.length d2] := by rw [hw10]; simpa using bX.set_ 0 (.int .i64 T2)
                    replace bE := bE.far (p := ⟨X, 0, none⟩) (by dsimp only; omega) (.int .i64 T2)
                    rw [← hw10] at bE
                    replace o1 := o1.setCell (p := ⟨X, 0, none⟩) (by dsimp only; omega) (.int .i64 T2)
                    rw [← hw10] at o1
                    replace o2 := o2.setCell (p := ⟨X, 0, none⟩) (by dsimp only; omega) (.int .i64 T2)
                    rw [← hw10] at o2
                    replace ho := ho.setCell (p := ⟨X, 0, none⟩) (by dsimp only; omega) (.int .i64 T2)
                    rw [← hw10] at ho
                    replace hr := hr.setCell (p := ⟨X, 0, none⟩) (by dsimp only; omega) (.int .i64 T2)
                    rw [← hw10] at hr
                    replace hc := hc.setCell (p := ⟨X, 0, none⟩) (by dsimp only; omega) (.int .i64 T2)
                    rw [← hw10] at hc
                    have s10 : wa.heap.size ≤ w10.heap.size := by omega
                    clear hw10
                    have hall := Lib.hid (And.intro bX (And.intro o1 (And.intro o2 (And.intro bE (And.intro ho (And.intro hr (And.intro hc hF)))))))
                    clear bX o1 o2 bE ho hr hc hF
                    go_wp2_with fail
                    go_meet
                    case rel => exact ⟨T2, ss, zs, B1, d1, B2, d2, l1, h1, l2, h2, hall.out.1, hall.out.2.1, hall.out.2.2.1, ⟨⟨q1, q2, by omega, by omega⟩, q5, q6, q7⟩, ⟨⟨y1, y2⟩, y3, y4⟩, hall.out.2.2.2.1, hall.out.2.2.2.2.1, hall.out.2.2.2.2.2.1, (hall.out.2.2.2.2.2.2.1).le (by omega), hall.out.2.2.2.2.2.2.2⟩
              case rest =>
                clear bX o1 o2 bE ho hr hc hF q1 q2 q3 q4 q5 q6 q7 y1 y2 y3 y4
                obtain ⟨T, ss, zs, B1, d1, B2, d2, l1, h1, l2, h2, bX, o1, o2, ⟨⟨q1, q2, q3, q4⟩, q5, q6, q7⟩, ⟨⟨y1, y2⟩, y3, y4⟩, bE, ho, hr, hc, hF⟩ := hcut
                obtain ⟨wa3, rfl⟩ : ∃ u, u = wc := ⟨_, rfl⟩
                have hX2 := bX.lt
                have hEl := bE.lt
                have hkc : (k : Int) ≤ 31 := by omega
                go_upto_if 67 with fail
                go_cut [] (fun wq => ∃ (T : Int) (ss zs : List Int) (B1 : Option Addr) (d1 : Nat) (B2 : Option Addr) (d2 l1 h1 l2 h2 : Nat), Bk wq X 46 #[.int .i64 T, .int .i64 ek.msg, .int .i64 ek.part, .slice B1 ss.length d1, .slice B2 zs.length d2] ∧ Own wq l1 h1 (.slice B1 ss.length d1) ss ∧ Own wq l2 h2 (.slice B2 zs.length d2) zs ∧ ((wr.heap.size + 1 ≤ l1 ∧ wr.heap.size + 1 ≤ l2 ∧ h1 ≤ wq.heap.size ∧ h2 ≤ wq.heap.size) ∧ (X < l1 ∨ h1 ≤ X) ∧ (X < l2 ∨ h2 ≤ X) ∧ (h1 ≤ l2 ∨ h2 ≤ l1)) ∧ ((0 < ss.length ∧ ss.length ≤ 8) ∧ 0 < zs.length ∧ zs.length ≤ 8) ∧ Bk wq wr.heap.size 46 #[.int .i64 ek.time, .int .i64 ek.msg, .int .i64 ek.part, .slice A3 ek.seen.length c3, .slice A4 ek.shown.length c4] ∧ OwnR wq w.heap.size wr.heap.size 46 5 (.slice D k c) rows ∧ EntsOw wq w.heap.size wr.heap.size fs rows ∧ Cur wq g (N + 20 * j + 16) ∧ Fr g (g + 1) w wq)
                case first =>
                  by_cases hk0 : 0 < k
                  · have hk1 : (0 : Int) < (k : Int) := by omega
                    obtain ⟨gd, t0, he2, hd1, hd2, x1⟩ := po_last ho hr hk0
                    subst he2
                    have x0 := bX.cell 0
                    simp at x0
                    have i0 : (1 : Int) ≤ (k : Int) := by omega
                    have i1 : (k : Int) - 1 < (k : Int) := by omega
                    have i2 : ((k : Int) - 1).toNat = k - 1 := by omega
                    have i3 : IntKind.i64.wrap ((k : Int) - 1) = (k : Int) - 1 := IntWalk.i64_in _ (by omega)
                    have z0 := bX.cell 0
                    simp at z0
                    have v0 := bX.frozen 0
                    have zl := bX.lt
                    go_wp2_with fail
                    go_region_law (first | (go_simp; (go_at_call 54; ((with_reducible refine (l1Most_w _ _ _).mono ?_); rintro e wb ⟨T2, rfl, -, rfl⟩))))
                    all_goals
                      clear x0 x1 z0 v0 zl i0 i1 i2 i3
                      obtain ⟨w11, hw11⟩ : ∃ u, u = wa3.setCell ⟨X, 0, none⟩ (.int .i64 T2) := ⟨_, rfl⟩
                      rw [← hw11]
                      have e11 : w11.heap.size = wa3.heap.size := by rw [hw11, size_setCell]
                      replace hc := hc.setCell (p := ⟨X, 0, none⟩) (by dsimp only; omega) (.int .i64 T2)
                      rw [← hw11] at hc
                      replace hF := hF.setNew (p := ⟨X, 0, none⟩) (by dsimp only; omega) (.int .i64 T2)
                      rw [← hw11] at hF
                      replace bX : Bk w11 (X) 46 #[.int .i64 T2, .int .i64 ek.msg, .int .i64 ek.part, .slice B1 ss.length d1, .slice B2 zs.length d2] := by rw [hw11]; simpa using bX.set_ 0 (.int .i64 T2)
                      replace bE := bE.far (p := ⟨X, 0, none⟩) (by dsimp only; omega) (.int .i64 T2)
                      rw [← hw11] at bE
                      replace o1 := o1.setCell (p := ⟨X, 0, none⟩) (by dsimp only; omega) (.int .i64 T2)
                      rw [← hw11] at o1
                      replace o2 := o2.setCell (p := ⟨X, 0, none⟩) (by dsimp only; omega) (.int .i64 T2)
                      rw [← hw11] at o2
                      replace ho := ho.setCell (p := ⟨X, 0, none⟩) (by dsimp only; omega) (.int .i64 T2)
                      rw [← hw11] at ho
                      replace hr := hr.setCell (p := ⟨X, 0, none⟩) (by dsimp only; omega) (.int .i64 T2)
                      rw [← hw11] at hr
                      have s11 : wa3.heap.size ≤ w11.heap.size := by omega
                      clear hw11
                      replace bX := bX.drew
                      replace o1 := o1.drew
                      replace o2 := o2.drew
                      replace bE := bE.drew
                      replace ho := ho.drew
                      replace hr := hr.drew
                      replace hc := hc.drew
                      replace hF := hF.drew
                      have sd : w11.heap.size ≤ w11.drew.heap.size := Nat.le_refl _
                      have hall := Lib.hid (And.intro bX (And.intro o1 (And.intro o2 (And.intro bE (And.intro ho (And.intro hr (And.intro hc hF)))))))
                      clear bX o1 o2 bE ho hr hc hF
                      go_wp2_with fail
                      go_meet
                      case rel => exact ⟨T2, ss, zs, B1, d1, B2, d2, l1, h1, l2, h2, hall.out.1, hall.out.2.1, hall.out.2.2.1, ⟨⟨q1, q2, by omega, by omega⟩, q5, q6, q7⟩, ⟨⟨y1, y2⟩, y3, y4⟩, hall.out.2.2.2.1, hall.out.2.2.2.2.1, hall.out.2.2.2.2.2.1, (hall.out.2.2.2.2.2.2.1).le (by omega), hall.out.2.2.2.2.2.2.2⟩
                  · have hk1 : ¬ ((0 : Int) < (k : Int)) := by omega
                    have hall := Lib.hid (And.intro bX (And.intro o1 (And.intro o2 (And.intro bE (And.intro ho (And.intro hr (And.intro hc hF)))))))
                    clear bX o1 o2 bE ho hr hc hF
                    go_wp2_with fail
                    go_meet
                    case rel => exact ⟨T, ss, zs, B1, d1, B2, d2, l1, h1, l2, h2, hall.out.1, hall.out.2.1, hall.out.2.2.1, ⟨⟨q1, q2, by omega, by omega⟩, q5, q6, q7⟩, ⟨⟨y1, y2⟩, y3, y4⟩, hall.out.2.2.2.1, hall.out.2.2.2.2.1, hall.out.2.2.2.2.2.1, (hall.out.2.2.2.2.2.2.1).le (by omega), hall.out.2.2.2.2.2.2.2⟩
                case rest =>
                  clear bX o1 o2 bE ho hr hc hF q1 q2 q3 q4 q5 q6 q7 y1 y2 y3 y4
                  obtain ⟨T, ss, zs, B1, d1, B2, d2, l1, h1, l2, h2, bX, o1, o2, ⟨⟨q1, q2, q3, q4⟩, q5, q6, q7⟩, ⟨⟨y1, y2⟩, y3, y4⟩, bE, ho, hr, hc, hF⟩ := hcut
                  obtain ⟨wa4, rfl⟩ : ∃ u, u = wc := ⟨_, rfl⟩
                  have hX2 := bX.lt
                  have hEl := bE.lt
                  have xl := bX.lt
                  have x0 := bX.cell 0
                  have x1 := bX.cell 1
                  have x2 := bX.cell 2
                  have x3 := bX.cell 3
                  have x4 := bX.cell 4
                  simp at x0 x1 x2 x3 x4
                  have hrk : rows.length + 1 ≤ 1073741824 := by have := hklH.out; omega
                  have bSH := Lib.hid (Bk.new wa4 46 #[.int .i64 T, .int .i64 ek.msg, .int .i64 ek.part, .slice B1 ss.length d1, .slice B2 zs.length d2])
                  have ho2 := Lib.hid ((ho.mono (Nat.le_refl _) (show wr.heap.size ≤ wa4.heap.size by omega)).alloc (.cells #[.int .i64 T, .int .i64 ek.msg, .int .i64 ek.part, .slice B1 ss.length d1, .slice B2 zs.length d2] 46))
                  have hr2 := Lib.hid ((hr.mono (Nat.le_refl _) (show wr.heap.size ≤ wa4.heap.size by omega)).alloc (.cells #[.int .i64 T, .int .i64 ek.msg, .int .i64 ek.part, .slice B1 ss.length d1, .slice B2 zs.length d2] 46))
                  have oy2 := Lib.hid ((o1.mono (show w.heap.size ≤ _ by omega) (show _ ≤ wa4.heap.size by omega)).alloc (.cells #[.int .i64 T, .int .i64 ek.msg, .int .i64 ek.part, .slice B1 ss.length d1, .slice B2 zs.length d2] 46))
                  have oz2 := Lib.hid ((o2.mono (show w.heap.size ≤ _ by omega) (show _ ≤ wa4.heap.size by omega)).alloc (.cells #[.int .i64 T, .int .i64 ek.msg, .int .i64 ek.part, .slice B1 ss.length d1, .slice B2 zs.length d2] 46))
                  have hc2 := Lib.hid (hc.alloc (.cells #[.int .i64 T, .int .i64 ek.msg, .int .i64 ek.part, .slice B1 ss.length d1, .slice B2 zs.length d2] 46))
                  have hF2 := Lib.hid (hF.alloc (.cells #[.int .i64 T, .int .i64 ek.msg, .int .i64 ek.part, .slice B1 ss.length d1, .slice B2 zs.length d2] 46))
                  have hww : w.heap.size ≤ wa4.heap.size := by omega
                  clear ho hr o1 o2 hc hF bE bX
                  go_wp2_with (at_builtin; refine wp_append_ent rfl (.tmp 79) (.tmp 81) rfl (v := .slice D k c) rfl ho2.out rfl (bk_cells (row := [.int .i64 T, .int .i64 ek.msg, .int .i64 ek.part, .slice B1 ss.length d1, .slice B2 zs.length d2]) bSH.out) rfl (by intro u hu; simp at hu; rcases hu with rfl | rfl | rfl | rfl | rfl <;> rfl) hrk (by simp; omega) ?_; intro v8 w8 ho8 hold8 hg8 hb8; (obtain ⟨D8, c8, rfl, -⟩ := ho8.cells); (obtain ⟨k8, hk8⟩ : ∃ k8, k8 = (rows ++ [[Value.int .i64 T, Value.int .i64 ek.msg, Value.int .i64 ek.part, Value.slice B1 ss.length d1, Value.slice B2 zs.length d2]]).length := ⟨_, rfl⟩); rw [← hk8] at ho8 ⊢; (have hk8H := Lib.hid hk8); clear hk8)
                  have hs8 : wa4.heap.size + 1 ≤ w8.heap.size := by have := hb8.size; simpa using this
                  have hki : KeepI _ w8 := KeepI.grown ho2.out hg8 (by decide)
                  have hr8 := (hr2.out.keepI hki).mono (Nat.le_refl _) (show _ ≤ w8.heap.size by omega)
                  have hn8 := hr8.snoc (e := ⟨T, ek.msg, ek.part, ss, zs⟩) ⟨_, _, rfl, (oy2.out.keepI hki).mono (Nat.le_refl _) (by omega), (oz2.out.keepI hki).mono (Nat.le_refl _) (by omega)⟩
                  have hc8 := hc2.out.below hb8 (by omega)
                  have hF8 := hF2.out.then_below hb8 (Nat.le_refl _)
                  obtain ⟨fs', hfs⟩ : ∃ fs', fs' = fs ++ [(⟨T, ek.msg, ek.part, ss, zs⟩ : Ent)] := ⟨_, rfl⟩
                  rw [← hfs] at hn8
                  have hez' : eszL fs' ≤ 19 * fs'.length := by rw [hfs, esz_append, esz_one, List.length_append, List.length_singleton]; show eszL fs + (1 + (ss.length + zs.length)) ≤ _; omega
                  have hfj' : fs'.length ≤ j + 1 := by rw [hfs, List.length_append, List.length_singleton]; omega
                  have hall := Lib.hid (And.intro ho8 (And.intro hn8 (And.intro hc8 hF8)))
                  clear ho8 hold8 hr8 hn8 hc8 hF8 hg8 hki ho2 hr2 oy2 oz2 hc2 hF2 bSH hb8 hfs hk8H xl x0 x1 x2 x3 x4
                  go_wp2_with fail
                  go_roundw
                  case rel => exact ⟨fs', _, D8, k8, c8, j + 1, rfl, by go_num, ⟨by omega, by omega, hez'⟩, hall.out.1, hall.out.2.1, hall.out.2.2.1.le (by omega), hall.out.2.2.2⟩
                  case measure => simp [intOf]; omega
    · have hje : j = es.length := by omega
      have hlt2 : ¬ ((j : Int) < (es.length : Int)) := by omega
      obtain ⟨wm, rfl⟩ : ∃ u, u = wr := ⟨_, rfl⟩
      have hfb : fs.length ≤ 30 ∧ eszL fs ≤ 570 ∧ j ≤ 30 := by omega
      obtain ⟨hfb1, hfb2, hfb3⟩ := hfb
      clear hje
      go_wp2_with fail
      (with_reducible refine (one_any g (N + 20 * j) 12 _ hc (by omega) (by omega)).mono ?_)
      rintro e w12 ⟨v, rfl, hcn, f12, z12⟩
      clear hc
      have hc := hcn
      clear hcn
      have s12 : wm.heap.size ≤ w12.heap.size := f12.size
      replace hF := hF.trans f12
      replace ho := ho.fr f12 (by omega)
      replace hr := hr.fr f12 (by omega)
      clear f12 z12
      cases v with
      | false =>
        have hrd := ho.rdEw hr.rws
        have hall := Lib.hid (And.intro (hrd.1.mono (Nat.le_refl _) (show _ ≤ w12.heap.size by omega)) (And.intro hrd.2.2 (And.intro hc hF)))
        clear ho hr hc hF hrd
        go_wp2_with fail
        go_ret
        have hkf := hkfH.out
        exact ⟨fs, D, c, by rw [← hkf]; rfl, ⟨by omega, by omega, by rw [← hkf]; exact hall.out.2.1⟩, hall.out.1, hall.out.2.2.1.le (by omega), hall.out.2.2.2⟩
      | true =>
        go_wp2_with fail
        (with_reducible refine (pick_any g (N + 20 * j + 2) 20 _ hc (by omega) (by omega)).mono ?_)
        rintro e w13 ⟨x, rfl, hx, hcn, f13, z13⟩
        clear hc
        have hc := hcn
        clear hcn
        have s13 : w12.heap.size ≤ w13.heap.size := f13.size
        replace hF := hF.trans f13
        replace ho := ho.fr f13 (by omega)
        replace hr := hr.fr f13 (by omega)
        clear f13 z13
        have v1 : IntKind.i64.wrap (1 + x) = 1 + x := IntWalk.i64_in _ (by omega)
        have v1' : wrap64 (1 + x) = 1 + x := IntWalk.wrap64_in _ (by omega)
        clear hx
        go_wp2_with fail
        (with_reducible refine (pick_any g (N + 20 * j + 4) 9 _ hc (by omega) (by omega)).mono ?_)
        rintro e w14 ⟨y, rfl, hy, hcn, f14, z14⟩
        clear hc
        have hc := hcn
        clear hcn
        have s14 : w13.heap.size ≤ w14.heap.size := f14.size
        replace hF := hF.trans f14
        replace ho := ho.fr f14 (by omega)
        replace hr := hr.fr f14 (by omega)
        clear f14 z14
        clear hy
        have hrk : rows.length + 1 ≤ 1073741824 := by have := hklH.out; omega
        have o1 : Own ((w14.alloc (.cells #[.int .i64 5] 3)).alloc (.cells #[.int .i64 5] 3)) w14.heap.size (w14.heap.size + 2) (.slice (some ⟨w14.heap.size, 0, none⟩) 1 1) [5] := (Own.made w14 [5] _ rfl (by simp [maxLen]) (Nat.le_refl _) (by omega)).alloc _
        have o2 : Own ((w14.alloc (.cells #[.int .i64 5] 3)).alloc (.cells #[.int .i64 5] 3)) w14.heap.size (w14.heap.size + 2) (.slice (some ⟨w14.heap.size + 1, 0, none⟩) 1 1) [5] := by
          have h := Own.made (w14.alloc (.cells #[.int .i64 5] 3)) (lo := w14.heap.size) (hi := w14.heap.size + 2) [5] #[.int .i64 5] rfl (by simp [maxLen]) (by simp) (by simp)
          simpa using h
        have ho2 := Lib.hid ((((ho.mono (Nat.le_refl _) (show wm.heap.size ≤ w14.heap.size by omega)).alloc (.cells #[.int .i64 5] 3)).alloc (.cells #[.int .i64 5] 3)).alloc (.cells #[.int .i64 10000, .int .i64 (1 + x), .int .i64 y, .slice (some ⟨w14.heap.size, 0, none⟩) 1 1, .slice (some ⟨w14.heap.size + 1, 0, none⟩) 1 1] 46))
        have hr2 := Lib.hid ((((hr.mono (Nat.le_refl _) (show wm.heap.size ≤ w14.heap.size by omega)).alloc (.cells #[.int .i64 5] 3)).alloc (.cells #[.int .i64 5] 3)).alloc (.cells #[.int .i64 10000, .int .i64 (1 + x), .int .i64 y, .slice (some ⟨w14.heap.size, 0, none⟩) 1 1, .slice (some ⟨w14.heap.size + 1, 0, none⟩) 1 1] 46))
        have oy2 := Lib.hid (o1.alloc (.cells #[.int .i64 10000, .int .i64 (1 + x), .int .i64 y, .slice (some ⟨w14.heap.size, 0, none⟩) 1 1, .slice (some ⟨w14.heap.size + 1, 0, none⟩) 1 1] 46))
        have oz2 := Lib.hid (o2.alloc (.cells #[.int .i64 10000, .int .i64 (1 + x), .int .i64 y, .slice (some ⟨w14.heap.size, 0, none⟩) 1 1, .slice (some ⟨w14.heap.size + 1, 0, none⟩) 1 1] 46))
        have hc2 := Lib.hid (((hc.alloc (.cells #[.int .i64 5] 3)).alloc (.cells #[.int .i64 5] 3)).alloc (.cells #[.int .i64 10000, .int .i64 (1 + x), .int .i64 y, .slice (some ⟨w14.heap.size, 0, none⟩) 1 1, .slice (some ⟨w14.heap.size + 1, 0, none⟩) 1 1] 46))
        have hF2 := Lib.hid (((hF.alloc (.cells #[.int .i64 5] 3)).alloc (.cells #[.int .i64 5] 3)).alloc (.cells #[.int .i64 10000, .int .i64 (1 + x), .int .i64 y, .slice (some ⟨w14.heap.size, 0, none⟩) 1 1, .slice (some ⟨w14.heap.size + 1, 0, none⟩) 1 1] 46))
        have bSH : Hid (Bk (((w14.alloc (.cells #[.int .i64 5] 3)).alloc (.cells #[.int .i64 5] 3)).alloc (.cells #[.int .i64 10000, .int .i64 (1 + x), .int .i64 y, .slice (some ⟨w14.heap.size, 0, none⟩) 1 1, .slice (some ⟨w14.heap.size + 1, 0, none⟩) 1 1] 46)) (w14.heap.size + 2) 46 #[.int .i64 10000, .int .i64 (1 + x), .int .i64 y, .slice (some ⟨w14.heap.size, 0, none⟩) 1 1, .slice (some ⟨w14.heap.size + 1, 0, none⟩) 1 1]) := Lib.hid (Bk.new3 w14 _ _ _ _)
        have hsq : w.heap.size ≤ w14.heap.size := by omega
        clear ho hr o1 o2 hc hF
        go_wp2_with (at_builtin; refine wp_append_ent (g := w14.heap.size + 2) (cc := 1) rfl (.tmp 86) (.tmp 95) rfl (v := .slice D k c) rfl ho2.out rfl (bk_cells (row := [.int .i64 10000, .int .i64 (1 + x), .int .i64 y, .slice (some ⟨w14.heap.size, 0, none⟩) 1 1, .slice (some ⟨w14.heap.size + 1, 0, none⟩) 1 1]) bSH.out) rfl (by intro u hu; simp at hu; rcases hu with rfl | rfl | rfl | rfl | rfl <;> rfl) hrk (by simp; omega) ?_; intro v8 w8 ho8 hold8 hg8 hb8; (obtain ⟨D8, c8, rfl, -⟩ := ho8.cells); (obtain ⟨k8, hk8⟩ : ∃ k8, k8 = (rows ++ [[Value.int .i64 10000, Value.int .i64 (1 + x), Value.int .i64 y, Value.slice (some ⟨w14.heap.size, 0, none⟩) 1 1, Value.slice (some ⟨w14.heap.size + 1, 0, none⟩) 1 1]]).length := ⟨_, rfl⟩); rw [← hk8] at ho8 ⊢; (have hk8H := Lib.hid hk8); clear hk8)
        clear v1 v1'
        have hs8 : w14.heap.size + 3 ≤ w8.heap.size := by have := hb8.size; simpa using this
        have hki : KeepI _ w8 := KeepI.grown ho2.out hg8 (by decide)
        have hr8 := (hr2.out.keepI hki).mono (Nat.le_refl _) (show _ ≤ w8.heap.size by omega)
        have hn8 := hr8.snoc (e := ⟨10000, 1 + x, y, [5], [5]⟩) ⟨_, _, rfl, (oy2.out.keepI hki).mono hsq (by omega), (oz2.out.keepI hki).mono hsq (by omega)⟩
        have hc8 := hc2.out.below hb8 (by omega)
        have hF8 := hF2.out.then_below hb8 (by omega)
        obtain ⟨fs', hfs⟩ : ∃ fs', fs' = fs ++ [(⟨10000, 1 + x, y, [5], [5]⟩ : Ent)] := ⟨_, rfl⟩
        rw [← hfs] at hn8
        have hez' : eszL fs' ≤ 600 := by rw [hfs, esz_append, esz_one]; simp only [List.length_cons, List.length_nil]; omega
        have hfj' : fs'.length ≤ 31 := by rw [hfs, List.length_append, List.length_singleton]; omega
        have hrd := ho8.rdEw hn8.rws
        have hk8b : k8 = fs'.length := hrd.2.1
        have hk8bH := Lib.hid hk8b
        have hall := Lib.hid (And.intro hrd.1 (And.intro hrd.2.2 (And.intro hc8 hF8)))
        clear ho8 hold8 hr8 hn8 hc8 hF8 hg8 hki ho2 hr2 oy2 oz2 hc2 hF2 bSH hb8 hfs hk8H hrd hk8b
        go_wp2_with fail
        go_ret
        have hkf := hk8bH.out
        exact ⟨fs', D8, c8, by rw [← hkf]; rfl, ⟨hfj', hez', by rw [← hkf]; exact hall.out.2.1⟩, hall.out.1, hall.out.2.2.1.le (by omega), hall.out.2.2.2⟩
end Go.Proofs.YtjhbffndiaggmaaDoor
