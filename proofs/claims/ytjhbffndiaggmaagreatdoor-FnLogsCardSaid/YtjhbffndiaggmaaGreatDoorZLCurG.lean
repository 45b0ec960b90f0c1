/-
  Contracts of the draws of FnLogs. The conditions are bounds on lengths.
-/
import Derived.Test.YtjhbffndiaggmaaGreatDoorZLCurT
import Derived.Test.YtjhbffndiaggmaaGreatDoorBL25
import Derived.Test.YtjhbffndiaggmaaGreatDoorZLFactG
import Derived.Test.YtjhbffndiaggmaaGreatDoorZLLgText
import Derived.Deep.DeepCutAuto
import Derived.Deep.CutBlock
import Derived.Deep.RegionLaw
import Derived.Deep.QuietTactic
import Derived.BigQuiet
namespace Go.Proofs.YtjhbffndiaggmaaGreatDoor
open Go.RowKit Go.ChangeShapes Go.WideShapes
set_option linter.unusedVariables false
set_option linter.unusedSimpArgs false

theorem RdE.setAnyE {w : World} {lo hi : Nat} {A : Option Addr} {es : List Ent} (h : RdE w lo hi A es) {p : Addr} (hp : p.block < lo ∨ hi ≤ p.block) (u : Value) : RdE (w.setCell p u) lo hi A es :=
  h.keep fun b o h1 h2 _ => World.cell?_setCell_other w p _ u (fun e => by subst e; simp at hp; omega)
/-- what the parting of a log holds: the log, the cursor, the two logs that grow -/
structure JlD (w0 : World) (HA M : Nat) (es : List Ent) (A : Option Addr) (xs ys : List Ent) (rx ry : List (List Value)) (u v : Value) (wq : World) : Prop where
  hr : RdE wq (w0.heap.size + 1) HA A es
  cur : Cur wq w0.heap.size M
  bel : Below w0.heap.size w0 wq
  ou : OwnR wq HA wq.heap.size 74 5 u rx
  ov : OwnR wq HA wq.heap.size 74 5 v ry
  ex : EntRows wq (w0.heap.size + 1) HA xs rx
  ey : EntRows wq (w0.heap.size + 1) HA ys ry
  dj : ∀ k, u.ownBlock = some k → v.ownBlock ≠ some k
  num : w0.heap.size < HA ∧ HA ≤ wq.heap.size
section
variable {w0 wq w' : World} {HA M : Nat} {es xs ys : List Ent} {A : Option Addr} {rx ry : List (List Value)} {u v : Value}
theorem JlD.swap (h : JlD w0 HA M es A xs ys rx ry u v wq) : JlD w0 HA M es A ys xs ry rx v u wq := ⟨h.hr, h.cur, h.bel, h.ov, h.ou, h.ey, h.ex, fun k h1 h2 => h.dj k h2 h1, h.num⟩
theorem JlD.le {M' : Nat} (h : JlD w0 HA M es A xs ys rx ry u v wq) (hM : M ≤ M') : JlD w0 HA M' es A xs ys rx ry u v wq := { h with cur := h.cur.le hM }
theorem EntRow.frc {e : Ent} {r : List Value} {g : Nat} (h : EntRow wq (g + 1) HA e r) (hf : Fr g (g + 1) wq w') : EntRow w' (g + 1) HA e r := h.keep fun b o h1 _ h3 => World.cell?_of_block (a := ⟨b, o, none⟩) (hf.block b h3 (by omega))
theorem EntRows.frc {es : List Ent} {rs : List (List Value)} {g : Nat} (h : EntRows wq (g + 1) HA es rs) (hf : Fr g (g + 1) wq w') : EntRows w' (g + 1) HA es rs := h.keep fun b o h1 _ h3 => World.cell?_of_block (a := ⟨b, o, none⟩) (hf.block b h3 (by omega))
theorem JlD.frc {M' : Nat} (h : JlD w0 HA M es A xs ys rx ry u v wq) (hf : Fr w0.heap.size (w0.heap.size + 1) wq w') (hc : Cur w' w0.heap.size M') : JlD w0 HA M' es A xs ys rx ry u v w' := by
  have hn := h.num
  have hs := hf.size
  exact ⟨h.hr.fr hf (.inr (Nat.le_refl _)), hc, h.bel.trans (hf.below (Nat.le_refl _) (by omega)), (h.ou.fr hf (.inr (by omega))).mono (Nat.le_refl _) hs, (h.ov.fr hf (.inr (by omega))).mono (Nat.le_refl _) hs, h.ex.frc hf, h.ey.frc hf, h.dj, hn.1, by omega⟩
theorem JlD.alloc (h : JlD w0 HA M es A xs ys rx ry u v wq) (o : Obj) : JlD w0 HA M es A xs ys rx ry u v (wq.alloc o) := by
  have hn := h.num
  have hk : ∀ b o', b < wq.heap.size → (wq.alloc o).cell? ⟨b, o', none⟩ = wq.cell? ⟨b, o', none⟩ := fun b o' h3 => World.cell?_alloc_lt _ _ _ (by exact h3)
  exact ⟨h.hr.keep fun b o' _ _ h3 => hk b o' h3, h.cur.alloc _, h.bel.alloc (by have := h.bel.size; omega) _, (h.ou.alloc _).mono (Nat.le_refl _) (by simp), (h.ov.alloc _).mono (Nat.le_refl _) (by simp), h.ex.keep fun b o' _ _ h3 => hk b o' h3, h.ey.keep fun b o' _ _ h3 => hk b o' h3, h.dj, hn.1, by simp; omega⟩
theorem JlD.addU {e : Ent} {row : List Value} {u' : Value} (h : JlD w0 HA M es A xs ys rx ry u v wq) (ho : OwnR w' HA w'.heap.size 74 5 u' (rx ++ [row])) (hg : wq.grownBy w' u.ownBlock) (hb : Below HA wq w')
    (hat : u'.ownBlock = u.ownBlock ∨ u'.ownBlock = some wq.heap.size) (hrow : EntRow wq (w0.heap.size + 1) HA e row) : JlD w0 HA M es A (xs ++ [e]) ys (rx ++ [row]) ry u' v w' := by
  have hn := h.num
  have hs := hb.size
  refine ⟨h.hr.keep fun b o _ h2 _ => hb.cell (p := ⟨b, o, none⟩) (by show b < HA; omega), h.cur.below hb hn.1, h.bel.trans (hb.mono (by omega)), ho, ?_, (h.ex.below hb (Nat.le_refl _)).snoc (hrow.keep fun b o _ h2 _ => hb.cell (p := ⟨b, o, none⟩) (by show b < HA; omega)), h.ey.below hb (Nat.le_refl _), ?_, hn.1, by omega⟩
  · exact (h.ov.keep fun k hk _ _ h3 => hg.block k h3 (fun e => h.dj k e.symm hk)).mono (Nat.le_refl _) hs
  · intro k hk hv
    rcases hat with ha | ha
    · exact h.dj k (ha ▸ hk) hv
    · have h1 := (h.ov.lt k hv).2.2
      rw [ha] at hk
      injection hk with hk
      omega
end
theorem esz_more {es xs ys : List Ent} {k : Nat} (hk : k < es.length) (hz : eszL xs + eszL ys = eszL (es.take k)) : eszL (xs ++ [es[k]]) + eszL ys = eszL (es.take (k + 1)) ∧ eszL xs + eszL (ys ++ [es[k]]) = eszL (es.take (k + 1)) := by
  rw [List.take_succ_eq_append_getElem hk, esz_append, esz_append, esz_append]
  omega
theorem rowCell (w : World) (row : List Value) (cs : Array Value) (h : cs.toList = row) : ∀ j (hj : j < [row].length) i, i < 5 → (w.alloc (.cells cs 74)).cell? ⟨w.heap.size, j * 5 + i, none⟩ = ([row][j])[i]? := fun j hj i hi => by
  obtain rfl : j = 0 := by simpa using hj
  rw [Nat.zero_mul, Nat.zero_add, (Bk.new w 74 cs).cell i, ← h]
  simp
set_option maxRecDepth 100000 in
set_option maxHeartbeats 4000000 in
theorem drawLogText_any (A0 : Option Addr) (n c0 : Nat) (w : World) (hcd : CodeAt w w.heap.size A0 n) (hn : n ≤ 9223372036854775807) (hnc : n ≤ c0) :
    Calls Tryz.prog 51 #[.slice A0 n c0] w fun e w' => ∃ (es : List Ent) (A : Option Addr) (c : Nat), e = .returned (.slice A es.length c) ∧ (es.length ≤ 31 ∧ eszL es ≤ 600 ∧ es.length ≤ c) ∧ RdE w' w.heap.size w'.heap.size A es ∧ Below w.heap.size w w' := by
  go_enter Tryz.func51, Tryz.ntmps51
  go_wp2_with fail
  (with_reducible refine (drawIsLog_any A0 n c0 _ hcd hn hnc).mono ?_)
  rintro e w1 ⟨es, A, c, rfl, hb, hr, b1⟩
  have hall := Lib.hid (And.intro hr b1)
  clear hr b1
  go_wp2_with fail
  go_ret
  exact ⟨es, A, c, rfl, hb, hall.out.1, hall.out.2⟩
set_option maxRecDepth 100000 in
set_option maxHeartbeats 8000000 in
theorem drawFindEntry_any (A0 : Option Addr) (n c0 : Nat) (w : World) (hcd : CodeAt w w.heap.size A0 n) (hn : n ≤ 9223372036854775807) (hnc : n ≤ c0) :
    Calls Tryz.prog 70 #[.slice A0 n c0] w fun e w' => ∃ (es : List Ent) (A : Option Addr) (c : Nat) (m q : Int), e = .returned (.tuple #[.slice A es.length c, .int .i64 m, .int .i64 q]) ∧ (es.length ≤ 31 ∧ eszL es ≤ 600 ∧ es.length ≤ c) ∧ RdE w' 0 w'.heap.size A es ∧ Below w.heap.size w w' := by
  go_enter Tryz.func70, Tryz.ntmps70
  go_wp2_with fail
  obtain ⟨w1, hw1⟩ : ∃ u, u = w.alloc (.cells #[.slice A0 n c0, .int .i64 0, .int .u64 0] 102) := ⟨_, rfl⟩
  rw [← hw1]
  have e1 : w1.heap.size = w.heap.size + 1 := by rw [hw1]; simp
  have s1 : w.heap.size + 1 ≤ w1.heap.size := by omega
  have hB : Below w.heap.size w w1 := by rw [hw1]; exact (Below.refl _ _).alloc (Nat.le_refl _) _
  have hc : Cur w1 w.heap.size 0 := by rw [hw1]; exact Cur.fresh hcd hn hnc
  clear hw1 hcd e1
  (with_reducible refine (log_any w.heap.size 0 _ hc (by omega)).mono ?_)
  rintro e w2 ⟨es, A, c, rfl, ⟨g1, g2, g3⟩, hr, hcn, fa⟩
  have s2 : w1.heap.size ≤ w2.heap.size := fa.size
  replace hB := hB.trans (fa.below (B := w.heap.size) (Nat.le_refl _) (by omega))
  clear hc fa
  have hc := hcn
  clear hcn
  replace hr := hr.mono (show w.heap.size + 1 ≤ _ by omega) (Nat.le_refl _)
  by_cases hl : 0 < es.length
  · have hl1 : (0 : Int) < (es.length : Int) := by omega
    go_wp2_with fail
    (with_reducible refine (one_any w.heap.size _ 4 _ hc (by omega) (by omega)).mono ?_)
    rintro e w3 ⟨v, rfl, hcn, f3, z3⟩
    clear hc
    have hc := hcn
    clear hcn
    have s3 : w2.heap.size ≤ w3.heap.size := f3.size
    replace hB := hB.trans (Fr.below f3 (by omega) (by omega))
    replace hr := hr.fr f3 (by omega)
    clear f3 z3
    cases v with
    | true =>
      go_wp2_with fail
      obtain ⟨w4, hw4⟩ : ∃ u, u = w3.alloc (.cells #[.int .i64 1, .int .i64 7, .int .i64 12, .int .i64 5] 3) := ⟨_, rfl⟩
      rw [← hw4]
      have e4 : w4.heap.size = w3.heap.size + 1 := by rw [hw4]; simp
      have s4 : w3.heap.size + 1 ≤ w4.heap.size := by omega
      have b4 : Below w3.heap.size w3 w4 := by rw [hw4]; exact (Below.refl _ _).alloc (Nat.le_refl _) _
      have r9 : Rd w4 (w3.heap.size) (w3.heap.size + 1) (some ⟨w3.heap.size, 0, none⟩) [1, 7, 12, 5] := by rw [hw4]; exact Rd.one _ _ _ _ rfl
      replace hB := hB.trans (Below.mono b4 hB.size)
      replace hr := hr.st b4
      replace hc := hc.st b4
      replace e4 := Lib.hid e4
      clear b4 hw4
      (with_reducible refine (among_any w.heap.size _ [1, 7, 12, 5] _ 4 _ _ hc (by omega) r9 rfl (by simp) (by simp) (by omega)).mono ?_)
      rintro e w5 ⟨m, rfl, -, hcn, f5, z5⟩
      clear hc
      have hc := hcn
      clear hcn
      have s5 : w4.heap.size ≤ w5.heap.size := f5.size
      replace hB := hB.trans (Fr.below f5 (by omega) (by omega))
      replace hr := hr.fr f5 (by omega)
      replace r9 := r9.fr f5 (by omega)
      clear f5 z5
      clear r9
      go_wp2_with fail
      (with_reducible refine (pick_any w.heap.size _ 4 _ hc (by omega) (by omega)).mono ?_)
      rintro e w6 ⟨q, rfl, -, hcn, f6, z6⟩
      clear hc
      have hc := hcn
      clear hcn
      have s6 : w5.heap.size ≤ w6.heap.size := f6.size
      replace hB := hB.trans (Fr.below f6 (by omega) (by omega))
      replace hr := hr.fr f6 (by omega)
      clear f6 z6
      have hall := Lib.hid (And.intro hr hB)
      clear hr hB hc
      go_wp2_with fail
      go_ret3
      exact ⟨es, A, c, m, q, rfl, ⟨g1, g2, g3⟩, hall.out.1.std, hall.out.2⟩
    | false =>
      go_wp2_with fail
      (with_reducible refine (pick_any w.heap.size _ (es.length : Int) _ hc (by omega) (by omega)).mono ?_)
      rintro e w7 ⟨x, rfl, ⟨hx0, hx1⟩, hcn, f7, z7⟩
      clear hc
      have hc := hcn
      clear hcn
      have s7 : w3.heap.size ≤ w7.heap.size := f7.size
      replace hB := hB.trans (Fr.below f7 (by omega) (by omega))
      replace hr := hr.fr f7 (by omega)
      clear f7 z7
      obtain ⟨k, rfl⟩ : ∃ k : Nat, x = (k : Int) := ⟨x.toNat, by omega⟩
      have hk : k < es.length := by omega
      have hk1 : (k : Int) < (es.length : Int) := by omega
      have hk0 : (0 : Int) ≤ (k : Int) := by omega
      clear hx0 hx1
      have hr2 := Lib.hid hr
      obtain ⟨b, off, rfl, _, _, hcell⟩ := hr hl
      obtain ⟨A1, d1, A2, d2, x0, x1, x2, x3, x4, -, -⟩ := hcell k hk
      clear hcell hr
      have hall := Lib.hid (And.intro hr2.out hB)
      clear hr2 hB hc
      go_wp2_with fail
      obtain ⟨w9, hw9⟩ : ∃ u, u = w7.alloc (.cells #[.int .i64 es[k].time, .int .i64 es[k].msg, .int .i64 es[k].part, .slice A1 es[k].seen.length d1, .slice A2 es[k].shown.length d2] 74) := ⟨_, rfl⟩
      rw [← hw9]
      have bE : Bk w9 w7.heap.size 74 #[.int .i64 es[k].time, .int .i64 es[k].msg, .int .i64 es[k].part, .slice A1 es[k].seen.length d1, .slice A2 es[k].shown.length d2] := by rw [hw9]; exact Bk.new _ _ _
      have hfin := Lib.hid (And.intro (hall.out.1.alloc (.cells #[.int .i64 es[k].time, .int .i64 es[k].msg, .int .i64 es[k].part, .slice A1 es[k].seen.length d1, .slice A2 es[k].shown.length d2] 74)) (hall.out.2.alloc (by omega) (.cells #[.int .i64 es[k].time, .int .i64 es[k].msg, .int .i64 es[k].part, .slice A1 es[k].seen.length d1, .slice A2 es[k].shown.length d2] 74)))
      rw [← hw9] at hfin
      have y1 := bE.cell 1
      have y2 := bE.cell 2
      have yl := bE.lt
      simp at y1 y2
      clear hw9 hall bE x0 x1 x2 x3 x4
      go_wp2_with fail
      go_quiet (fail)
      have hf2 := Lib.hid (And.intro (hfin.out.1.drewN nq) (below_drewN hfin.out.2 nq))
      clear hfin y1 y2 yl
      go_wp2_with fail
      go_ret3
      exact ⟨es, _, c, es[k].msg, es[k].part, rfl, ⟨g1, g2, g3⟩, hf2.out.1.std, hf2.out.2⟩
  · have hl1 : ¬ ((0 : Int) < (es.length : Int)) := by omega
    skip
    go_wp2_with fail
    obtain ⟨w8, hw8⟩ : ∃ u, u = w2.alloc (.cells #[.int .i64 1, .int .i64 7, .int .i64 12, .int .i64 5] 3) := ⟨_, rfl⟩
    rw [← hw8]
    have e8 : w8.heap.size = w2.heap.size + 1 := by rw [hw8]; simp
    have s8 : w2.heap.size + 1 ≤ w8.heap.size := by omega
    have b8 : Below w2.heap.size w2 w8 := by rw [hw8]; exact (Below.refl _ _).alloc (Nat.le_refl _) _
    have r9 : Rd w8 (w2.heap.size) (w2.heap.size + 1) (some ⟨w2.heap.size, 0, none⟩) [1, 7, 12, 5] := by rw [hw8]; exact Rd.one _ _ _ _ rfl
    replace hc := hc.st b8
    replace hB := hB.trans (Below.mono b8 hB.size)
    replace hr := hr.st b8
    replace e8 := Lib.hid e8
    clear b8 hw8
    (with_reducible refine (among_any w.heap.size _ [1, 7, 12, 5] _ 4 _ _ hc (by omega) r9 rfl (by simp) (by simp) (by omega)).mono ?_)
    rintro e w9 ⟨m, rfl, -, hcn, f9, z9⟩
    clear hc
    have hc := hcn
    clear hcn
    have s9 : w8.heap.size ≤ w9.heap.size := f9.size
    replace hB := hB.trans (Fr.below f9 (by omega) (by omega))
    replace hr := hr.fr f9 (by omega)
    replace r9 := r9.fr f9 (by omega)
    clear f9 z9
    clear r9
    go_wp2_with fail
    (with_reducible refine (pick_any w.heap.size _ 4 _ hc (by omega) (by omega)).mono ?_)
    rintro e w10 ⟨q, rfl, -, hcn, f10, z10⟩
    clear hc
    have hc := hcn
    clear hcn
    have s10 : w9.heap.size ≤ w10.heap.size := f10.size
    replace hB := hB.trans (Fr.below f10 (by omega) (by omega))
    replace hr := hr.fr f10 (by omega)
    clear f10 z10
    have hall := Lib.hid (And.intro hr hB)
    clear hr hB hc
    go_wp2_with fail
    go_ret3
    exact ⟨es, A, c, m, q, rfl, ⟨g1, g2, g3⟩, hall.out.1.std, hall.out.2⟩
set_option maxRecDepth 100000 in
set_option maxHeartbeats 8000000 in
theorem drawParseLog_any (A0 : Option Addr) (n c0 : Nat) (w : World) (hcd : CodeAt w w.heap.size A0 n) (hn : n ≤ 9223372036854775807) (hnc : n ≤ c0) :
    Calls Tryz.prog 68 #[.slice A0 n c0] w fun e w' => ∃ t : ByteArray, e = .returned (.string t) ∧ t.size ≤ 13000 ∧ Below w.heap.size w w' := by
  go_enter Tryz.func68, Tryz.ntmps68
  go_wp2_with fail
  obtain ⟨w1, hw1⟩ : ∃ u, u = w.alloc (.cells #[.slice A0 n c0, .int .i64 0, .int .u64 0] 102) := ⟨_, rfl⟩
  rw [← hw1]
  have e1 : w1.heap.size = w.heap.size + 1 := by rw [hw1]; simp
  have s1 : w.heap.size + 1 ≤ w1.heap.size := by omega
  have hB : Below w.heap.size w w1 := by rw [hw1]; exact (Below.refl _ _).alloc (Nat.le_refl _) _
  have hc : Cur w1 w.heap.size 0 := by rw [hw1]; exact Cur.fresh hcd hn hnc
  clear hw1 hcd e1
  (with_reducible refine (log_any w.heap.size 0 _ hc (by omega)).mono ?_)
  rintro e w2 ⟨es, A, c, rfl, ⟨g1, g2, g3⟩, hr, hcn, fa⟩
  have s2 : w1.heap.size ≤ w2.heap.size := fa.size
  replace hB := hB.trans (fa.below (B := w.heap.size) (Nat.le_refl _) (by omega))
  clear hc fa
  have hc := hcn
  clear hcn
  replace hr := hr.mono (show w.heap.size + 1 ≤ _ by omega) (Nat.le_refl _)
  obtain ⟨v, hv⟩ : ∃ v, logB es = v := ⟨_, rfl⟩
  have hvH := Lib.hid hv
  clear hv
  go_wp2_with fail
  (with_reducible refine (lgGood_k es A es.length c _ rfl hr (by omega) v hvH.out).mono ?_)
  rintro e w3 ⟨rfl, b3⟩
  have s3 : w2.heap.size ≤ w3.heap.size := b3.size
  replace hc := hc.st b3
  replace hB := hB.trans (Below.mono b3 hB.size)
  replace hr := hr.st b3
  clear b3
  cases v with
  | false =>
    obtain ⟨o, ho⟩ : ∃ o, o = Obj.cells #[.string { data := #[] }, .string { data := #[53, 48, 32, 49, 50, 32, 48, 32, 58, 32, 53, 32, 58, 32, 53] }, .string { data := #[53, 48, 32, 49, 50, 32, 48, 32, 58, 32, 53, 32, 58, 32, 53, 10] }, .string { data := #[53, 48, 32, 49, 50, 32, 48, 58, 32, 53, 32, 58, 32, 53, 10] }, .string { data := #[53, 48, 32, 49, 50, 32, 58, 32, 53, 32, 58, 32, 53, 10] }, .string { data := #[53, 48, 32, 49, 50, 32, 48, 32, 58, 32, 58, 32, 53, 10] }, .string { data := #[48, 53, 48, 32, 49, 50, 32, 48, 32, 58, 32, 53, 32, 58, 32, 53, 10] }, .string { data := #[10] }] 9 (0, 0) := ⟨_, rfl⟩
    have rt : RdT (w3.alloc o) w3.heap.size (w3.heap.size + 1) (some ⟨w3.heap.size, 0, none⟩) 8 40 := by rw [ho]; exact RdT.new _ _ #[.string { data := #[] }, .string { data := #[53, 48, 32, 49, 50, 32, 48, 32, 58, 32, 53, 32, 58, 32, 53] }, .string { data := #[53, 48, 32, 49, 50, 32, 48, 32, 58, 32, 53, 32, 58, 32, 53, 10] }, .string { data := #[53, 48, 32, 49, 50, 32, 48, 58, 32, 53, 32, 58, 32, 53, 10] }, .string { data := #[53, 48, 32, 49, 50, 32, 58, 32, 53, 32, 58, 32, 53, 10] }, .string { data := #[53, 48, 32, 49, 50, 32, 48, 32, 58, 32, 58, 32, 53, 10] }, .string { data := #[48, 53, 48, 32, 49, 50, 32, 48, 32, 58, 32, 53, 32, 58, 32, 53, 10] }, .string { data := #[10] }] 40 (by kernel_rfl)
    replace hc := hc.alloc o
    replace hB := hB.alloc (by omega) o
    have so : (w3.alloc o).heap.size = w3.heap.size + 1 := by simp
    have soH := Lib.hid so
    clear so hr
    go_wp2_with fail
    rw [← ho]
    clear ho
    (with_reducible refine (of_any w.heap.size _ 8 40 _ _ _ hc (by omega) rt (by omega) (by omega) (.inr (by omega))).mono ?_)
    rintro e w9 ⟨t, rfl, ht, -, fa⟩
    have hfin := Lib.hid (hB.trans (fa.below (B := w.heap.size) (by omega) (by have := soH.out; omega)))
    clear hB hc rt fa
    go_wp2_with fail
    go_ret
    exact ⟨t, rfl, by omega, hfin.out⟩
  | true =>
    have hkl : (ltTo es es.length).length ≤ 12000 := by have h := lt_len es; rwa [ltL_yes hvH.out] at h
    go_wp2_with fail
    (with_reducible refine (lgText_any es A c _ hr hvH.out).mono ?_)
    rintro e w4 ⟨rfl, b4⟩
    have s4 : w3.heap.size ≤ w4.heap.size := b4.size
    replace hc := hc.st b4
    replace hB := hB.trans (Below.mono b4 hB.size)
    replace hr := hr.st b4
    clear b4
    obtain ⟨t0, ht0⟩ : ∃ t, t = str (ltTo es es.length) := ⟨_, rfl⟩
    have htl : t0.size ≤ 12000 := by rw [ht0, str_size]; exact hkl
    rw [← ht0]
    clear ht0 hkl hr hvH
    go_wp2_with fail
    (with_reducible refine (one_any w.heap.size _ 3 _ hc (by omega) (by omega)).mono ?_)
    rintro e w5 ⟨v, rfl, hcn, f5, z5⟩
    clear hc
    have hc := hcn
    clear hcn
    have s5 : w4.heap.size ≤ w5.heap.size := f5.size
    replace hB := hB.trans (Fr.below f5 (by omega) (by omega))
    clear f5 z5
    cases v with
    | false =>
      have hfin := Lib.hid hB
      clear hB hc
      go_wp2_with fail
      go_ret
      exact ⟨t0, rfl, by omega, hfin.out⟩
    | true =>
      go_wp2_with fail
      (with_reducible refine (spoilt_any w.heap.size _ t0 _ _ hc (by omega) (by omega) (by decide) (by decide)).mono ?_)
      rintro e w9 ⟨t, rfl, ht, -, fa⟩
      have hfin := Lib.hid (hB.trans (fa.below (B := w.heap.size) (by omega) (by omega)))
      clear hB hc fa
      go_wp2_with fail
      go_ret
      exact ⟨t, rfl, by omega, hfin.out⟩
set_option maxRecDepth 100000 in
set_option maxHeartbeats 16000000 in
theorem drawAppendEntry_any (A0 : Option Addr) (n c0 : Nat) (w : World) (hcd : CodeAt w w.heap.size A0 n) (hn : n ≤ 9223372036854775807) (hnc : n ≤ c0) :
    Calls Tryz.prog 61 #[.slice A0 n c0] w fun e w' => ∃ (es : List Ent) (A : Option Addr) (c : Nat) (t1 m1 q1 : Int) (ys zs : List Int) (B : Option Addr) (d : Nat) (C : Option Addr) (f : Nat), e = .returned (.tuple #[.slice A es.length c, .agg #[.int .i64 t1, .int .i64 m1, .int .i64 q1, .slice B ys.length d, .slice C zs.length f]]) ∧ (es.length ≤ 31 ∧ eszL es ≤ 600 ∧ es.length ≤ c) ∧ (ys.length ≤ 9 ∧ zs.length ≤ 9) ∧ RdE w' 0 w'.heap.size A es ∧ Rd w' 0 w'.heap.size B ys ∧ Rd w' 0 w'.heap.size C zs ∧ Below w.heap.size w w' := by
  obtain ⟨wb, hwb⟩ : ∃ u, u = (w.alloc (.cells #[.int .i64 0, .int .i64 0, .int .i64 0, .slice none 0 0, .slice none 0 0] 74)) := ⟨_, rfl⟩
  have sb : wb.heap.size = w.heap.size + 1 := by rw [hwb]; simp
  have bB : Below w.heap.size w wb := by rw [hwb]; exact (Below.refl _ _).alloc (Nat.le_refl _) _
  have bZ : Bk wb w.heap.size 74 #[.int .i64 0, .int .i64 0, .int .i64 0, .slice none 0 0, .slice none 0 0] := by rw [hwb]; exact Bk.new w _ _
  have hcdb := hcd.st bB
  have hc := Cur.fresh (c := c0) hcdb hn hnc
  have hB := bB.alloc (by omega) (.cells #[.slice A0 n c0, .int .i64 0, .int .u64 0] 102)
  replace bZ := bZ.alloc (.cells #[.slice A0 n c0, .int .i64 0, .int .u64 0] 102)
  go_enter Tryz.func61, Tryz.ntmps61
  go_wp2_with fail
  rw [← hwb]
  obtain ⟨w1, hw1⟩ : ∃ u, u = wb.alloc (.cells #[.slice A0 n c0, .int .i64 0, .int .u64 0] 102) := ⟨_, rfl⟩
  have s1 : w1.heap.size = w.heap.size + 2 := by rw [hw1]; simp; omega
  rw [← hw1] at hc hB bZ ⊢
  rw [sb] at hc
  clear hw1 hwb bB hcdb hcd
  (with_reducible refine (log_any (w.heap.size + 1) 0 _ hc (by omega)).mono ?_)
  rintro e w2 ⟨es, A, c, rfl, ⟨g1, g2, g3⟩, hr, hcn, fa⟩
  have s2 : w1.heap.size ≤ w2.heap.size := fa.size
  replace hB := hB.trans (fa.below (B := w.heap.size) (by omega) (by omega))
  replace bZ := bZ.fr fa (by omega)
  clear hc fa
  have hc := hcn
  clear hcn
  replace hr := hr.mono (show w.heap.size + 2 ≤ _ by omega) (Nat.le_refl _)
  have s2b : w.heap.size + 2 ≤ w2.heap.size := by omega
  clear s1 s2 sb
  go_wp2_with fail
  (with_reducible refine (pick_any (w.heap.size + 1) _ 100 _ hc (by omega) (by omega)).mono ?_)
  rintro e w3 ⟨t0, rfl, -, hcn, f3, z3⟩
  clear hc
  have hc := hcn
  clear hcn
  have s3 : w2.heap.size ≤ w3.heap.size := f3.size
  replace hB := hB.trans (Fr.below f3 (by omega) (by omega))
  replace hr := hr.fr f3 (by omega)
  replace bZ := bZ.fr f3 (by omega)
  clear f3 z3
  go_upto_region 4 with fail
  go_cut [21] (fun s wq => ∃ v : Bool, s = .bool v ∧ (v = true → 0 < es.length) ∧ Cur wq (w.heap.size + 1) 2100 ∧ Fr (w.heap.size + 1) (w.heap.size + 2) w3 wq)
  case first =>
    by_cases hl : 0 < es.length
    · have hl1 : (0 : Int) < (es.length : Int) := by omega
      go_wp2_with fail
      (with_reducible refine (one_any (w.heap.size + 1) _ 4 _ hc (by omega) (by omega)).mono ?_)
      rintro e wv ⟨v, rfl, hcn, fa, -⟩
      have hfin := Lib.hid (And.intro (hcn.le (show _ ≤ 2100 by omega)) fa)
      clear hcn fa hc hr hB bZ
      go_wp2_with fail
      go_meet
      case rel => exact ⟨!v, rfl, fun _ => hl, hfin.out.1, hfin.out.2⟩
    · have hl1 : ¬ ((0 : Int) < (es.length : Int)) := by omega
      have hfin := Lib.hid (And.intro (hc.le (show _ ≤ 2100 by omega)) (Fr.refl (w.heap.size + 1) (w.heap.size + 2) w3))
      clear hc hr hB bZ
      go_wp2_with fail
      go_meet
      case rel => exact ⟨false, rfl, fun h => absurd h (by simp), hfin.out.1, hfin.out.2⟩
  case rest =>
    clear hc
    obtain ⟨v, rfl, hv, hc, fa⟩ := hcut
    obtain ⟨wy, rfl⟩ : ∃ u, u = wc := ⟨_, rfl⟩
    have sy : w3.heap.size ≤ wy.heap.size := fa.size
    replace hB := hB.trans (fa.below (B := w.heap.size) (by omega) (by omega))
    replace hr := hr.fr fa (by omega)
    replace bZ := bZ.fr fa (by omega)
    clear fa
    go_upto_if 21 with fail
    go_cut [6] (fun s wq => ∃ t : Int, s = .int .i64 t ∧ Cur wq (w.heap.size + 1) 2200 ∧ Fr (w.heap.size + 1) (w.heap.size + 2) wy wq)
    case first =>
      cases v with
      | false =>
        have hfin := Lib.hid (And.intro (hc.le (show _ ≤ 2200 by omega)) (Fr.refl (w.heap.size + 1) (w.heap.size + 2) wy))
        clear hc hr hB bZ hv
        go_wp2_with fail
        go_meet
        case rel => exact ⟨_, rfl, hfin.out.1, hfin.out.2⟩
      | true =>
        have hl := hv rfl
        clear hv
        have h1 : (1 : Int) ≤ (es.length : Int) := by omega
        have v1 : IntKind.i64.wrap ((es.length : Int) - 1) = (es.length : Int) - 1 := IntWalk.i64_in _ (by omega)
        have v2 : ((es.length : Int) - 1).toNat = es.length - 1 := by omega
        have v3 : (es.length : Int) - 1 < (es.length : Int) := by omega
        obtain ⟨b, off, rfl, _, hbl, hcell⟩ := hr hl
        obtain ⟨A1, d1, A2, d2, x0, -, -, -, -, -, -⟩ := hcell (es.length - 1) (by omega)
        obtain ⟨T, hT⟩ : ∃ T, T = (es[es.length - 1]'(by omega)).time := ⟨_, rfl⟩
        rw [← hT] at x0
        have hbn := World.block_lt_of_cell? wy _ x0
        clear hcell hr hB bZ hT
        have hcd := hc.drew
        have hF0 := (Fr.refl (w.heap.size + 1) (w.heap.size + 2) wy).drew
        have hl2 : ¬ es.length = 0 := by omega
        go_wp2_with fail
        go_region_held3 (fun w' => w'.cell? ⟨b, off + (es.length - 1) * 5, none⟩ = some (.int .i64 T)) (first | exact x0 | exact x9 | assumption)
          (first | (go_at_call 115; ((with_reducible refine (pick_any (w.heap.size + 1) 2100 9 _ hcd (by omega) (by omega)).mono ?_); rintro e w9 ⟨x, rfl, hxb, hc9, f9, s9⟩); (have x9 : w9.cell? ⟨b, off + (es.length - 1) * 5, none⟩ = some (.int .i64 T) := (World.cell?_of_block (w := wy) (f9.block b hbn (by omega))).trans x0)))
        all_goals
          have hfin := Lib.hid (And.intro (hc9.le (show _ ≤ 2200 by omega)) (hF0.trans f9))
          clear hc9 f9 hcd hc hF0 x0
          go_wp2_with fail
          go_meet
          case rel => exact ⟨_, rfl, hfin.out.1, hfin.out.2⟩
    case rest =>
      clear hc
      obtain ⟨t, rfl, hc, fa⟩ := hcut
      obtain ⟨wz, rfl⟩ : ∃ u, u = wc := ⟨_, rfl⟩
      have sz : wy.heap.size ≤ wz.heap.size := fa.size
      replace hB := hB.trans (fa.below (B := w.heap.size) (by omega) (by omega))
      replace hr := hr.fr fa (by omega)
      replace bZ := bZ.fr fa (by omega)
      clear fa
      go_wp2_with fail
      (with_reducible refine (entry_any (w.heap.size + 1) _ t _ hc (by omega)).mono ?_)
      rintro e w9 ⟨t1, m1, q1, ys, zs, B, d, C, f, rfl, ⟨y1, y2, y3⟩, oy, oz, -, fa⟩
      have s9 := fa.size
      replace hB := hB.trans (fa.below (B := w.heap.size) (by omega) (by omega))
      replace hr := hr.fr fa (by omega)
      replace bZ := bZ.fr fa (by omega)
      clear fa hc
      have z0 := bZ.cell 0
      have z1 := bZ.cell 1
      have z2 := bZ.cell 2
      have z3 := bZ.cell 3
      have z4 := bZ.cell 4
      have zf0 := bZ.frozen 0
      have zf1 := bZ.frozen 1
      have zf2 := bZ.frozen 2
      have zf3 := bZ.frozen 3
      have zf4 := bZ.frozen 4
      simp at z0 z1 z2 z3 z4
      have zl := bZ.lt
      have ho := Lib.hid (And.intro (((((hr.setAnyE (p := ⟨w.heap.size, 0, none⟩) (by dsimp only; omega) (.int .i64 t1)).setAnyE (p := ⟨w.heap.size, 1, none⟩) (by dsimp only; omega) (.int .i64 m1)).setAnyE (p := ⟨w.heap.size, 2, none⟩) (by dsimp only; omega) (.int .i64 q1)).setAnyE (p := ⟨w.heap.size, 3, none⟩) (by dsimp only; omega) (.slice B ys.length d)).setAnyE (p := ⟨w.heap.size, 4, none⟩) (by dsimp only; omega) (.slice C zs.length f)) (And.intro ((((((oy.rd'.mono (show w.heap.size + 2 ≤ _ by omega) (Nat.le_refl _)).setAny (p := ⟨w.heap.size, 0, none⟩) (by dsimp only; omega) (.int .i64 t1)).setAny (p := ⟨w.heap.size, 1, none⟩) (by dsimp only; omega) (.int .i64 m1)).setAny (p := ⟨w.heap.size, 2, none⟩) (by dsimp only; omega) (.int .i64 q1)).setAny (p := ⟨w.heap.size, 3, none⟩) (by dsimp only; omega) (.slice B ys.length d)).setAny (p := ⟨w.heap.size, 4, none⟩) (by dsimp only; omega) (.slice C zs.length f)) (And.intro ((((((oz.rd'.mono (show w.heap.size + 2 ≤ _ by omega) (Nat.le_refl _)).setAny (p := ⟨w.heap.size, 0, none⟩) (by dsimp only; omega) (.int .i64 t1)).setAny (p := ⟨w.heap.size, 1, none⟩) (by dsimp only; omega) (.int .i64 m1)).setAny (p := ⟨w.heap.size, 2, none⟩) (by dsimp only; omega) (.int .i64 q1)).setAny (p := ⟨w.heap.size, 3, none⟩) (by dsimp only; omega) (.slice B ys.length d)).setAny (p := ⟨w.heap.size, 4, none⟩) (by dsimp only; omega) (.slice C zs.length f)) (((((hB.setCell (p := ⟨w.heap.size, 0, none⟩) (Nat.le_refl _) (.int .i64 t1)).setCell (p := ⟨w.heap.size, 1, none⟩) (Nat.le_refl _) (.int .i64 m1)).setCell (p := ⟨w.heap.size, 2, none⟩) (Nat.le_refl _) (.int .i64 q1)).setCell (p := ⟨w.heap.size, 3, none⟩) (Nat.le_refl _) (.slice B ys.length d)).setCell (p := ⟨w.heap.size, 4, none⟩) (Nat.le_refl _) (.slice C zs.length f)))))
      clear hr oy oz hB bZ
      go_wp2_with fail
      refine bodyPost_ret (v := .tuple #[.slice A es.length c, .agg #[.int .i64 t1, .int .i64 m1, .int .i64 q1, .slice B ys.length d, .slice C zs.length f]]) (by simp [results, Tryz.results61, go_sem, z0, z1, z2, z3, z4]) rfl ?_
      exact ⟨es, A, c, t1, m1, q1, ys, zs, B, d, C, f, rfl, ⟨g1, g2, g3⟩, ⟨y1, y2⟩, ho.out.1.std, ho.out.2.1.std, ho.out.2.2.1.std, ho.out.2.2.2⟩
set_option maxRecDepth 100000 in
set_option maxHeartbeats 16000000 in
theorem drawJoinLogs_any (A0 : Option Addr) (n c0 : Nat) (w : World) (hcd : CodeAt w w.heap.size A0 n) (hn : n ≤ 9223372036854775807) (hnc : n ≤ c0) :
    Calls Tryz.prog 64 #[.slice A0 n c0] w fun e w' => ∃ (xs ys : List Ent) (A : Option Addr) (c : Nat) (B : Option Addr) (d : Nat), e = .returned (.tuple #[.slice A xs.length c, .slice B ys.length d]) ∧ (xs.length ≤ 31 ∧ eszL xs ≤ 600 ∧ xs.length ≤ c) ∧ (ys.length ≤ 31 ∧ eszL ys ≤ 600 ∧ ys.length ≤ d) ∧ RdE w' 0 w'.heap.size A xs ∧ RdE w' 0 w'.heap.size B ys ∧ Below w.heap.size w w' := by
  go_enter Tryz.func64, Tryz.ntmps64
  go_wp2_with fail
  obtain ⟨w1, hw1⟩ : ∃ u, u = w.alloc (.cells #[.slice A0 n c0, .int .i64 0, .int .u64 0] 102) := ⟨_, rfl⟩
  rw [← hw1]
  have e1 : w1.heap.size = w.heap.size + 1 := by rw [hw1]; simp
  have s1 : w.heap.size + 1 ≤ w1.heap.size := by omega
  have hB : Below w.heap.size w w1 := by rw [hw1]; exact (Below.refl _ _).alloc (Nat.le_refl _) _
  have hc : Cur w1 w.heap.size 0 := by rw [hw1]; exact Cur.fresh hcd hn hnc
  clear hw1 hcd e1
  (with_reducible refine (log_any w.heap.size 0 _ hc (by omega)).mono ?_)
  rintro e w2 ⟨es, A, c, rfl, ⟨g1, g2, g3⟩, hr, hcn, fa⟩
  have s2 : w1.heap.size ≤ w2.heap.size := fa.size
  replace hB := hB.trans (fa.below (B := w.heap.size) (Nat.le_refl _) (by omega))
  clear hc fa
  have hc := hcn
  clear hcn
  replace hr := hr.mono (show w.heap.size + 1 ≤ _ by omega) (Nat.le_refl _)
  go_wp2_with fail
  (with_reducible refine (one_any w.heap.size _ 3 _ hc (by omega) (by omega)).mono ?_)
  rintro e w3 ⟨v, rfl, hcn, f3, z3⟩
  clear hc
  have hc := hcn
  clear hcn
  have s3 : w2.heap.size ≤ w3.heap.size := f3.size
  replace hB := hB.trans (Fr.below f3 (by omega) (by omega))
  replace hr := hr.fr f3 (by omega)
  clear f3 z3
  cases v with
  | true =>
    go_wp2_with fail
    (with_reducible refine (log_any w.heap.size _ _ hc (by omega)).mono ?_)
    rintro e w9 ⟨fs, B, d, rfl, ⟨q1, q2, q3⟩, hs, -, fa⟩
    have s9 := fa.size
    replace hB := hB.trans (fa.below (B := w.heap.size) (Nat.le_refl _) (by omega))
    replace hr := hr.fr fa (by omega)
    have hall := Lib.hid (And.intro hr.std (And.intro hs.std hB))
    clear hr hs hB hc fa
    go_wp2_with fail
    go_ret2
    exact ⟨es, fs, A, c, B, d, rfl, ⟨g1, g2, g3⟩, ⟨q1, q2, q3⟩, hall.out.1, hall.out.2.1, hall.out.2.2⟩
  | false =>
    obtain ⟨HA, hHA⟩ : ∃ n, n = w3.heap.size := ⟨_, rfl⟩
    have hj : JlD w HA 2100 es A [] [] [] [] (.slice none 0 0) (.slice none 0 0) w3 := ⟨hr.mono (Nat.le_refl _) (by omega), hc.le (by omega), hB, OwnR.nil, OwnR.nil, EntRows.nil, EntRows.nil, fun k h => by simp [Value.ownBlock] at h, by omega⟩
    clear hr hc hB hHA
    go_wp2_with fail
    go_loopw [6, 7, 22] (fun u v i wr => ∃ (k : Nat) (xs ys : List Ent) (rx ry : List (List Value)), i = .int .i64 (k : Int) ∧ k ≤ es.length ∧ (eszL xs + eszL ys = eszL (es.take k) ∧ rx.length + ry.length = k) ∧ JlD w HA (2100 + 2 * k) es A xs ys rx ry u v wr) (fun _ _ i _ => es.length - (intOf i).toNat)
    case atStart => exact ⟨0, [], [], [], [], rfl, Nat.zero_le _, ⟨rfl, rfl⟩, hj⟩
    case round =>
      clear hj
      obtain ⟨k, xs, ys, rx, ry, rfl, hk, hz, hj⟩ := hrel
      have hzH := Lib.hid hz
      clear hz
      obtain ⟨Au, cu, rfl, -⟩ := hj.ou.cells
      obtain ⟨Av, cv, rfl, -⟩ := hj.ov.cells
      by_cases hlt : k < es.length
      · obtain ⟨b, off, hA, -, hb, hcell⟩ := hj.hr (by omega)
        obtain ⟨A1, d1, A2, d2, x0, x1, x2, x3, x4, r1, r2⟩ := hcell k hlt
        subst hA
        have k1 : (k : Int) < (es.length : Int) := by omega
        have k0 : (0 : Int) ≤ (k : Int) := by omega
        have hrow : EntRow wr (w.heap.size + 1) HA es[k] [.int .i64 es[k].time, .int .i64 es[k].msg, .int .i64 es[k].part, .slice A1 es[k].seen.length d1, .slice A2 es[k].shown.length d2] := ⟨A1, d1, A2, d2, rfl, r1, r2⟩
        have hja := Lib.hid (And.intro (hj.alloc (.cells #[.int .i64 es[k].time, .int .i64 es[k].msg, .int .i64 es[k].part, .slice A1 es[k].seen.length d1, .slice A2 es[k].shown.length d2] 74)) (hrow.keep (w' := wr.alloc (.cells #[.int .i64 es[k].time, .int .i64 es[k].msg, .int .i64 es[k].part, .slice A1 es[k].seen.length d1, .slice A2 es[k].shown.length d2] 74)) (fun b o _ _ h3 => World.cell?_alloc_lt _ _ _ (by exact h3))))
        have bE : Bk (wr.alloc (.cells #[.int .i64 es[k].time, .int .i64 es[k].msg, .int .i64 es[k].part, .slice A1 es[k].seen.length d1, .slice A2 es[k].shown.length d2] 74)) wr.heap.size 74 #[.int .i64 es[k].time, .int .i64 es[k].msg, .int .i64 es[k].part, .slice A1 es[k].seen.length d1, .slice A2 es[k].shown.length d2] := Bk.new _ _ _
        have hnr := hj.num
        clear hcell r1 r2 hrow hj
        go_wp2_with fail
        obtain ⟨w5, hw5⟩ : ∃ u, u = wr.alloc (.cells #[.int .i64 es[k].time, .int .i64 es[k].msg, .int .i64 es[k].part, .slice A1 es[k].seen.length d1, .slice A2 es[k].shown.length d2] 74) := ⟨_, rfl⟩
        rw [← hw5] at hja bE ⊢
        have s5 : w5.heap.size = wr.heap.size + 1 := by rw [hw5]; simp
        clear hw5 x0 x1 x2 x3 x4
        have hj := hja.out.1
        have hrw := hja.out.2
        clear hja
        (with_reducible refine (one_any w.heap.size (2100 + 2 * k) 2 _ hj.cur (by omega) (by omega)).mono ?_)
        rintro e w6 ⟨v, rfl, hcn, fa, s6⟩
        have h6s : w5.heap.size ≤ w6.heap.size := by omega
        replace hj := hj.frc fa hcn
        replace bE := bE.fr fa (by omega)
        replace hrw := hrw.frc fa
        clear fa hcn s6
        have y0 := bE.cell 0
        have y1 := bE.cell 1
        have y2 := bE.cell 2
        have y3 := bE.cell 3
        have y4 := bE.cell 4
        simp at y0 y1 y2 y3 y4
        have yl := bE.lt
        have hrx : rx.length + ry.length ≤ 60 := by have := hzH.out.2; omega
        have hs56 : wr.heap.size + 1 ≤ w6.heap.size := by omega
        have hjH := Lib.hid hj
        have hrwH := Lib.hid hrw
        clear hj hrw s5 h6s bE
        have hzk := Lib.hid (esz_more (xs := xs) (ys := ys) hlt hzH.out.1)
        cases v with
        | true =>
          go_wp2_with (at_builtin; refine wp_append_rows rfl (.tmp 28) (.tmp 30) rfl Tryz.underlying65 entInfo rfl (by omega) rfl (hjH.out.ou.alloc _) (news := [[.int .i64 es[k].time, .int .i64 es[k].msg, .int .i64 es[k].part, .slice A1 es[k].seen.length d1, .slice A2 es[k].shown.length d2]]) (by rfl) (rowCell w6 [.int .i64 es[k].time, .int .i64 es[k].msg, .int .i64 es[k].part, .slice A1 es[k].seen.length d1, .slice A2 es[k].shown.length d2] #[.int .i64 es[k].time, .int .i64 es[k].msg, .int .i64 es[k].part, .slice A1 es[k].seen.length d1, .slice A2 es[k].shown.length d2] rfl) (by simp) (by simp [Value.oneCell']) (by simp; omega) (by omega) (by simp; omega) ?_; intro v5 w9 ho5 hg5 hb5 hat5; (obtain ⟨A5, c5, rfl, -⟩ := ho5.cells))
          have hj9 := (hjH.out.alloc (.cells #[.int .i64 es[k].time, .int .i64 es[k].msg, .int .i64 es[k].part, .slice A1 es[k].seen.length d1, .slice A2 es[k].shown.length d2] 74)).addU ho5 hg5 hb5 hat5 (hrwH.out.keep (w' := w6.alloc (.cells #[.int .i64 es[k].time, .int .i64 es[k].msg, .int .i64 es[k].part, .slice A1 es[k].seen.length d1, .slice A2 es[k].shown.length d2] 74)) (fun b o _ _ h3 => World.cell?_alloc_lt _ _ _ (by exact h3)))
          rw [show (rx ++ ([[.int .i64 es[k].time, .int .i64 es[k].msg, .int .i64 es[k].part, .slice A1 es[k].seen.length d1, .slice A2 es[k].shown.length d2]] : List (List Value))).length = rx.length + 1 by simp] at hj9
          refine ⟨⟨k + 1, xs ++ [es[k]], ys, rx ++ [[.int .i64 es[k].time, .int .i64 es[k].msg, .int .i64 es[k].part, .slice A1 es[k].seen.length d1, .slice A2 es[k].shown.length d2]], ry, by go_num, by omega, ⟨hzk.out.1, by have := hzH.out.2; simp; omega⟩, hj9.le (show 2100 + 2 * k + 2 ≤ 2100 + 2 * (k + 1) by omega)⟩, ?_⟩
          simp [intOf]
          omega
        | false =>
          go_wp2_with (at_builtin; refine wp_append_rows rfl (.tmp 32) (.tmp 34) rfl Tryz.underlying65 entInfo rfl (by omega) rfl (hjH.out.ov.alloc _) (news := [[.int .i64 es[k].time, .int .i64 es[k].msg, .int .i64 es[k].part, .slice A1 es[k].seen.length d1, .slice A2 es[k].shown.length d2]]) (by rfl) (rowCell w6 [.int .i64 es[k].time, .int .i64 es[k].msg, .int .i64 es[k].part, .slice A1 es[k].seen.length d1, .slice A2 es[k].shown.length d2] #[.int .i64 es[k].time, .int .i64 es[k].msg, .int .i64 es[k].part, .slice A1 es[k].seen.length d1, .slice A2 es[k].shown.length d2] rfl) (by simp) (by simp [Value.oneCell']) (by simp; omega) (by omega) (by simp; omega) ?_; intro v5 w9 ho5 hg5 hb5 hat5; (obtain ⟨A5, c5, rfl, -⟩ := ho5.cells))
          have hj9 := ((hjH.out.alloc (.cells #[.int .i64 es[k].time, .int .i64 es[k].msg, .int .i64 es[k].part, .slice A1 es[k].seen.length d1, .slice A2 es[k].shown.length d2] 74)).swap.addU ho5 hg5 hb5 hat5 (hrwH.out.keep (w' := w6.alloc (.cells #[.int .i64 es[k].time, .int .i64 es[k].msg, .int .i64 es[k].part, .slice A1 es[k].seen.length d1, .slice A2 es[k].shown.length d2] 74)) (fun b o _ _ h3 => World.cell?_alloc_lt _ _ _ (by exact h3)))).swap
          rw [show (ry ++ ([[.int .i64 es[k].time, .int .i64 es[k].msg, .int .i64 es[k].part, .slice A1 es[k].seen.length d1, .slice A2 es[k].shown.length d2]] : List (List Value))).length = ry.length + 1 by simp] at hj9
          refine ⟨⟨k + 1, xs, ys ++ [es[k]], rx, ry ++ [[.int .i64 es[k].time, .int .i64 es[k].msg, .int .i64 es[k].part, .slice A1 es[k].seen.length d1, .slice A2 es[k].shown.length d2]], by go_num, by omega, ⟨hzk.out.2, by have := hzH.out.2; simp; omega⟩, hj9.le (show 2100 + 2 * k + 2 ≤ 2100 + 2 * (k + 1) by omega)⟩, ?_⟩
          simp [intOf]
          omega
      · have hlt2 : ¬ ((k : Int) < (es.length : Int)) := by omega
        obtain ⟨hx1, hx2, hx3⟩ := hj.ou.rdE hj.ex
        obtain ⟨hy1, hy2, hy3⟩ := hj.ov.rdE hj.ey
        have ht := esz_take es k
        have hz2 := hzH.out
        have hxy := Lib.hid (show (xs.length ≤ 31 ∧ eszL xs ≤ 600 ∧ xs.length ≤ cu) ∧ (ys.length ≤ 31 ∧ eszL ys ≤ 600 ∧ ys.length ≤ cv) from ⟨⟨by omega, by omega, by omega⟩, by omega, by omega, by omega⟩)
        have hfin := Lib.hid (And.intro hx1 (And.intro hy1 hj.bel))
        have hx2H := Lib.hid hx2
        have hy2H := Lib.hid hy2
        clear hx1 hx2 hx3 hy1 hy2 hy3 ht hz2 hj
        go_wp2_with fail
        go_ret2
        exact ⟨xs, ys, Au, cu, Av, cv, by rw [hx2H.out, hy2H.out]; rfl, hxy.out.1, hxy.out.2, hfin.out.1, hfin.out.2.1, hfin.out.2.2⟩
end Go.Proofs.YtjhbffndiaggmaaGreatDoor
