/-
  Contracts and plain laws that the walk uses, several texts in one. The conditions are named ahead of each.
-/
import Derived.Test.YtjhbffndiaggmaaGreatDoorZLCurL
import Derived.Test.YtjhbffndiaggmaaGreatDoorBL24
import Derived.Test.YtjhbffndiaggmaaGreatDoorBL7
import Derived.Test.YtjhbffndiaggmaaGreatDoorBL3

/-
  The contract of the drawn log. The conditions are bounds on how often the cursor has been asked.
-/
namespace Go.Proofs.YtjhbffndiaggmaaGreatDoor
open Go.RowKit Go.ChangeShapes Go.WideShapes
set_option linter.unusedVariables false
set_option linter.unusedSimpArgs false

section
variable {w w' : World} {lo hi lo' hi' B : Nat} {e : Ent} {r : List Value} {es : List Ent} {rows : List (List Value)}
/-- rows that are entries, each with two slices that a call has made -/
def EntOw (w : World) (lo hi : Nat) (e : Ent) (r : List Value) : Prop := ∃ u v, r = [.int .i64 e.time, .int .i64 e.msg, .int .i64 e.part, u, v] ∧ Own w lo hi u e.seen ∧ Own w lo hi v e.shown
def EntsOw (w : World) (lo hi : Nat) (es : List Ent) (rows : List (List Value)) : Prop := rows.length = es.length ∧ ∀ j (h : j < es.length) (h' : j < rows.length), EntOw w lo hi es[j] rows[j]
theorem EntOw.row (h : EntOw w lo hi e r) : EntRow w lo hi e r := by
  obtain ⟨u, v, rfl, a, b⟩ := h
  obtain ⟨A1, c1, rfl, r1, -⟩ := a.rd
  obtain ⟨A2, c2, rfl, r2, -⟩ := b.rd
  exact ⟨A1, c1, A2, c2, rfl, r1, r2⟩
theorem EntOw.map {w1 w2 : World} {l1 h1 l2 h2 : Nat} (h : EntOw w1 l1 h1 e r) (f : ∀ {u : Value} {zs : List Int}, Own w1 l1 h1 u zs → Own w2 l2 h2 u zs) : EntOw w2 l2 h2 e r := by
  obtain ⟨u, v, rfl, a, b⟩ := h
  exact ⟨u, v, rfl, f a, f b⟩
theorem EntsOw.nil : EntsOw w lo hi [] [] := ⟨rfl, fun j h => absurd h (by simp)⟩
theorem EntsOw.map {w1 w2 : World} {l1 h1 l2 h2 : Nat} (h : EntsOw w1 l1 h1 es rows) (f : ∀ {u : Value} {zs : List Int}, Own w1 l1 h1 u zs → Own w2 l2 h2 u zs) : EntsOw w2 l2 h2 es rows := ⟨h.1, fun j a b => (h.2 j a b).map f⟩
theorem EntsOw.mono (h : EntsOw w lo hi es rows) (h1 : lo' ≤ lo) (h2 : hi ≤ hi') : EntsOw w lo' hi' es rows := h.map fun x => x.mono h1 h2
theorem EntsOw.keepI (h : EntsOw w lo hi es rows) (hk : KeepI w w') : EntsOw w' lo hi es rows := h.map fun x => x.keepI hk
theorem EntsOw.st (h : EntsOw w lo hi es rows) (hb : Below w.heap.size w w') : EntsOw w' lo hi es rows := h.map fun x => x.st hb
theorem EntsOw.below (h : EntsOw w lo hi es rows) (hb : Below B w w') (hB : hi ≤ B ∨ w.heap.size ≤ B) : EntsOw w' lo hi es rows := h.map fun x => x.below hb hB
theorem EntsOw.fr (h : EntsOw w lo hi es rows) (hf : Fr lo' hi' w w') (hd : hi ≤ lo' ∨ hi' ≤ lo) : EntsOw w' lo hi es rows := h.map fun x => x.fr hf hd
theorem EntsOw.alloc (h : EntsOw w lo hi es rows) (o : Obj) : EntsOw (w.alloc o) lo hi es rows := h.map fun x => x.alloc o
theorem EntsOw.drew (h : EntsOw w lo hi es rows) : EntsOw w.drew lo hi es rows := h
theorem EntsOw.rws (h : EntsOw w lo hi es rows) : EntRows w lo hi es rows := ⟨h.1, fun j a b => (h.2 j a b).row⟩
theorem EntsOw.snoc (h : EntsOw w lo hi es rows) (hr : EntOw w lo hi e r) : EntsOw w lo hi (es ++ [e]) (rows ++ [r]) := by
  refine ⟨by simp [h.1], fun j h1 h2 => ?_⟩
  rw [List.getElem_append, List.getElem_append]
  have := h.1
  by_cases hj : j < es.length
  · rw [dif_pos hj, dif_pos (by omega)]; exact h.2 j hj (by omega)
  · rw [dif_neg hj, dif_neg (by omega)]; simpa using hr
/-- such a slice reads as its entries -/
theorem OwnR.rdEw {A : Option Addr} {n c : Nat} (ho : OwnR w lo hi 74 5 (.slice A n c) rows) (hr : EntRows w lo hi es rows) : RdE w lo hi A es ∧ n = es.length ∧ n ≤ c := by
  obtain ⟨A', c', he, hc1, hc2, hn, hx⟩ := ho.cells
  injection he with e1 e2 e3
  subst e1 e2 e3
  refine ⟨fun hp => ?_, hr.1, hc1⟩
  obtain ⟨g, rfl, g1, g2, g3, _, hc⟩ := hx (by rw [hr.1]; exact hp)
  refine ⟨g, 0, rfl, g1, g2, fun j hj => ?_⟩
  have := (hr.2 j hj (by rw [hr.1]; exact hj)).at_ (b := g) (o := j * 5) fun i hi' => hc j (by rw [hr.1]; exact hj) i hi'
  rwa [Nat.zero_add]
end
theorem lgGood_k (es : List Ent) (A : Option Addr) (n c : Nat) {l h : Nat} (w : World) (hn : n = es.length) (hr : RdE w l h A es) (hl : eszL es ≤ 1048576) (v : Bool) (hv : logB es = v) :
    Calls Tryz.prog 128 #[.slice A n c] w fun e w' => e = .returned (.bool v) ∧ Below w.heap.size w w' := by
  subst hn; exact lgGood_v es A c w hr hl v hv
set_option maxRecDepth 100000 in
set_option maxHeartbeats 8000000 in
theorem log_any (g N : Nat) (w : World) (hc : Cur w g N) (hN : N ≤ 4611686018427350000) :
    Calls Tryz.prog 134 #[.pointer (some ⟨g, 0, none⟩)] w fun e w' => ∃ (es : List Ent) (A : Option Addr) (c : Nat), e = .returned (.slice A es.length c) ∧ (es.length ≤ 31 ∧ eszL es ≤ 600 ∧ es.length ≤ c) ∧ RdE w' w.heap.size w'.heap.size A es ∧ Cur w' g (N + 2000) ∧ Fr g (g + 1) w w' := by
  have hgl := hc.lt
  have hF := Fr.refl g (g + 1) w
  go_enter Tryz.func134, Tryz.ntmps134
  go_wp2_with fail
  (with_reducible refine (pick_any g N 50 _ hc (by omega) (by omega)).mono ?_)
  rintro e w1 ⟨t0, rfl, ht0, hcn, f1, z1⟩
  clear hc
  have hc := hcn
  clear hcn
  have s1 : w.heap.size ≤ w1.heap.size := f1.size
  replace hF := hF.trans f1
  clear f1 z1
  clear ht0
  go_wp2_with fail
  (with_reducible refine (pick_any g (N + 2) 9 _ hc (by omega) (by omega)).mono ?_)
  rintro e w2 ⟨x, rfl, hx, hcn, f2, z2⟩
  clear hc
  have hc := hcn
  clear hcn
  have s2 : w1.heap.size ≤ w2.heap.size := f2.size
  replace hF := hF.trans f2
  clear f2 z2
  obtain ⟨n, rfl⟩ : ∃ n : Nat, x = (n : Int) := ⟨x.toNat, by omega⟩
  have hn8 : n ≤ 8 := by omega
  clear hx
  go_wp2_with fail
  go_loopw [3, 4, 5] (fun u v x wr => ∃ (es : List Ent) (rows : List (List Value)) (A : Option Addr) (k c m : Nat) (time : Int), u = .slice A k c ∧ v = .int .i64 time ∧ x = .int .i64 (m : Int) ∧ (es.length + m ≤ 8 ∧ eszL es ≤ 19 * es.length) ∧ OwnR wr w.heap.size wr.heap.size 74 5 (.slice A k c) rows ∧ EntsOw wr w.heap.size wr.heap.size es rows ∧ Cur wr g (N + 4 + 200 * (8 - m)) ∧ Fr g (g + 1) w wr) (fun _ _ x _ => (intOf x).toNat)
  case atStart => exact ⟨[], [], none, 0, 0, n, t0, rfl, rfl, rfl, ⟨by simp; omega, by rw [esz_nil]; omega⟩, OwnR.nil, EntsOw.nil, hc.le (by omega), hF⟩
  case round =>
    clear hc hF
    obtain ⟨es, rows, A, k, c, m, time, rfl, rfl, rfl, ⟨hem, hez⟩, ho, hr, hc, hF⟩ := hrel
    have hgr := hc.lt
    have hsr := hF.size
    by_cases hlt : 0 < m
    · have hlt2 : (0 : Int) < (m : Int) := by omega
      have v0 : wrap64 ((m : Int) - 1) = (m : Int) - 1 := IntWalk.wrap64_in _ (by omega)
      go_wp2_with fail
      (with_reducible refine (entry_any g (N + 4 + 200 * (8 - m)) time _ hc (by omega)).mono ?_)
      rintro e w3 ⟨t1, m1, q1, ys, zs, B1, d1, B2, d2, rfl, ⟨hy9, hz9, hz0⟩, oy, oz, hcn, f3⟩
      clear hc
      have hc := hcn
      clear hcn
      have s3 : wr.heap.size ≤ w3.heap.size := f3.size
      replace hF := hF.trans f3
      replace ho := ho.fr f3 (by omega)
      replace hr := hr.fr f3 (by omega)
      clear f3
      go_upto_region 7 with fail
      obtain ⟨w4, hw4⟩ : ∃ u, u = w3.alloc (.cells #[.int .i64 t1, .int .i64 m1, .int .i64 q1, .slice B1 ys.length d1, .slice B2 zs.length d2] 74) := ⟨_, rfl⟩
      rw [← hw4]
      have e4 : w4.heap.size = w3.heap.size + 1 := by rw [hw4]; simp
      have s4 : w3.heap.size + 1 ≤ w4.heap.size := by omega
      have b4 : Below w3.heap.size w3 w4 := by rw [hw4]; exact (Below.refl _ _).alloc (Nat.le_refl _) _
      have bE : Bk w4 (w3.heap.size) 74 #[.int .i64 t1, .int .i64 m1, .int .i64 q1, .slice B1 ys.length d1, .slice B2 zs.length d2] := by rw [hw4]; exact Bk.new _ _ _
      replace hF := hF.then_below b4 hF.size
      replace ho := ho.st b4
      replace hr := hr.st b4
      replace hc := hc.st b4
      replace oy := oy.st b4
      replace oz := oz.st b4
      replace e4 := Lib.hid e4
      clear b4 hw4
      have xl := bE.lt
      have x0 := bE.cell 0
      have x1 := bE.cell 1
      have x2 := bE.cell 2
      have x3 := bE.cell 3
      have x4 := bE.cell 4
      simp at x0 x1 x2 x3 x4
      have bS := Bk.new w4 74 #[.int .i64 t1, .int .i64 m1, .int .i64 q1, .slice B1 ys.length d1, .slice B2 zs.length d2]
      have ho2 := Lib.hid ((ho.mono (Nat.le_refl _) (show wr.heap.size ≤ w4.heap.size by omega)).alloc (.cells #[.int .i64 t1, .int .i64 m1, .int .i64 q1, .slice B1 ys.length d1, .slice B2 zs.length d2] 74))
      have hr2 := Lib.hid ((hr.mono (Nat.le_refl _) (show wr.heap.size ≤ w4.heap.size by omega)).alloc (.cells #[.int .i64 t1, .int .i64 m1, .int .i64 q1, .slice B1 ys.length d1, .slice B2 zs.length d2] 74))
      have oy2 := Lib.hid ((oy.mono (show w.heap.size ≤ wr.heap.size from hsr) (show _ ≤ w4.heap.size by omega)).alloc (.cells #[.int .i64 t1, .int .i64 m1, .int .i64 q1, .slice B1 ys.length d1, .slice B2 zs.length d2] 74))
      have oz2 := Lib.hid ((oz.mono (show w.heap.size ≤ wr.heap.size from hsr) (show _ ≤ w4.heap.size by omega)).alloc (.cells #[.int .i64 t1, .int .i64 m1, .int .i64 q1, .slice B1 ys.length d1, .slice B2 zs.length d2] 74))
      have hc2 := Lib.hid (hc.alloc (.cells #[.int .i64 t1, .int .i64 m1, .int .i64 q1, .slice B1 ys.length d1, .slice B2 zs.length d2] 74))
      have hF2 := Lib.hid (hF.alloc (.cells #[.int .i64 t1, .int .i64 m1, .int .i64 q1, .slice B1 ys.length d1, .slice B2 zs.length d2] 74))
      have bSH := Lib.hid bS
      have hkl : rows.length = es.length := hr.1
      have hkH := Lib.hid hkl
      clear ho hr oy oz hc hF bE bS hkl
      go_wp2_with (at_builtin; refine wp_append_ent rfl (.tmp 20) (.tmp 22) rfl (v := .slice A k c) rfl ho2.out rfl (bk_cells (row := [.int .i64 t1, .int .i64 m1, .int .i64 q1, .slice B1 ys.length d1, .slice B2 zs.length d2]) bSH.out) rfl (by intro u hu; simp at hu; rcases hu with rfl | rfl | rfl | rfl | rfl <;> rfl) (by have := hkH.out; omega) (by simp; omega) ?_; intro v8 w8 ho8 hold8 hg8 hb8; (obtain ⟨A8, c8, rfl, -⟩ := ho8.cells); (obtain ⟨k8, hk8⟩ : ∃ k8, k8 = (rows ++ [[Value.int .i64 t1, Value.int .i64 m1, Value.int .i64 q1, Value.slice B1 ys.length d1, Value.slice B2 zs.length d2]]).length := ⟨_, rfl⟩); rw [← hk8] at ho8 ⊢; (have hk8H := Lib.hid hk8); clear hk8)
      have hs8 : w4.heap.size + 1 ≤ w8.heap.size := by have := hb8.size; simpa using this
      have hki : KeepI _ w8 := KeepI.grown ho2.out hg8 (by decide)
      have hr8 := (hr2.out.keepI hki).mono (Nat.le_refl _) (show _ ≤ w8.heap.size by omega)
      have hn8' := hr8.snoc (e := ⟨t1, m1, q1, ys, zs⟩) ⟨_, _, rfl, (oy2.out.keepI hki).mono (Nat.le_refl _) (by omega), (oz2.out.keepI hki).mono (Nat.le_refl _) (by omega)⟩
      have hc8 := hc2.out.below hb8 (by omega)
      have hF8 := hF2.out.then_below hb8 (Nat.le_refl _)
      obtain ⟨es', hes⟩ : ∃ es', es' = es ++ [(⟨t1, m1, q1, ys, zs⟩ : Ent)] := ⟨_, rfl⟩
      obtain ⟨rows', hrows⟩ : ∃ rows', rows' = rows ++ [[Value.int .i64 t1, Value.int .i64 m1, Value.int .i64 q1, Value.slice B1 ys.length d1, Value.slice B2 zs.length d2]] := ⟨_, rfl⟩
      rw [← hrows] at ho8 hn8'
      rw [← hes] at hn8'
      have hel : es'.length = es.length + 1 := by rw [hes]; simp
      have hez' : eszL es' ≤ 19 * es'.length := by rw [hes, esz_append, esz_one, List.length_append, List.length_singleton]; show eszL es + (1 + (ys.length + zs.length)) ≤ _; omega
      have hez2 : eszL es' ≤ 200 := by omega
      have hk8b : k8 = es'.length := by rw [hk8H.out, ← hrows]; exact hn8'.1
      have hk8bH := Lib.hid hk8b
      have hrd := (ho8.rdEw hn8'.rws).1
      obtain ⟨v, hv⟩ : ∃ v, logB es' = v := ⟨_, rfl⟩
      have hvH := Lib.hid hv
      have helH := Lib.hid hel
      have hel2 : es'.length ≤ es.length + 1 := by omega
      clear hk8H hes hrows hel hk8b hv hg8 hki ho2 hr2 oy2 oz2 hc2 hF2 bSH hb8 x0 x1 x2 x3 x4 xl
      (with_reducible refine (lgGood_k es' A8 k8 c8 _ hk8bH.out hrd (by omega) v hvH.out).mono ?_)
      rintro e w9 ⟨rfl, b9⟩
      have s9 : w8.heap.size ≤ w9.heap.size := b9.size
      clear hrd
      replace hc8 := hc8.st b9
      replace hF8 := hF8.then_below b9 hF8.size
      replace ho8 := ho8.st b9
      replace hold8 := hold8.st b9
      replace hr8 := hr8.st b9
      replace hn8' := hn8'.st b9
      clear b9
      cases v with
      | true =>
        go_wp2_with fail
        obtain ⟨w10, hw10⟩ : ∃ u, u = w9.alloc (.cells #[.int .i64 0, .int .i64 1, .int .i64 10, .int .i64 40] 3) := ⟨_, rfl⟩
        rw [← hw10]
        have e10 : w10.heap.size = w9.heap.size + 1 := by rw [hw10]; simp
        have s10 : w9.heap.size + 1 ≤ w10.heap.size := by omega
        have b10 : Below w9.heap.size w9 w10 := by rw [hw10]; exact (Below.refl _ _).alloc (Nat.le_refl _) _
        have r10 : Rd w10 (w9.heap.size) (w9.heap.size + 1) (some ⟨w9.heap.size, 0, none⟩) [0, 1, 10, 40] := by rw [hw10]; exact Rd.one _ _ _ _ rfl
        replace hc8 := hc8.st b10
        replace hF8 := hF8.then_below b10 hF8.size
        replace ho8 := ho8.st b10
        replace hold8 := hold8.st b10
        replace hr8 := hr8.st b10
        replace hn8' := hn8'.st b10
        replace e10 := Lib.hid e10
        clear b10 hw10
        (with_reducible refine (among_any g (N + 4 + 200 * (8 - m) + 140) [0, 1, 10, 40] _ 4 _ _ hc8 (by omega) r10 rfl (by simp) (by simp) (by omega)).mono ?_)
        rintro e w11 ⟨kk, rfl, hkk, hc8n, f11, z11⟩
        clear hc8
        have hc8 := hc8n
        clear hc8n
        have s11 : w10.heap.size ≤ w11.heap.size := f11.size
        replace hF8 := hF8.trans f11
        replace ho8 := ho8.fr f11 (by omega)
        replace hold8 := hold8.fr f11 (by omega)
        replace hr8 := hr8.fr f11 (by omega)
        replace hn8' := hn8'.fr f11 (by omega)
        replace r10 := r10.fr f11 (by omega)
        clear f11 z11
        clear hkk
        clear r10
        have hall := Lib.hid (And.intro (ho8.mono (Nat.le_refl _) (show _ ≤ w11.heap.size by omega)) (And.intro (hn8'.mono (Nat.le_refl _) (show _ ≤ w11.heap.size by omega)) (And.intro hc8 hF8)))
        clear ho8 hold8 hr8 hn8' hc8 hF8
        go_wp2_with fail
        go_roundw
        case rel => exact ⟨es', rows', A8, k8, c8, m - 1, _, rfl, rfl, by first | (congr 1; omega) | go_num, ⟨by omega, by omega⟩, hall.out.1, hall.out.2.1, hall.out.2.2.1.le (by omega), hall.out.2.2.2⟩
        case measure => simp [intOf]; omega
      | false =>
        go_wp2_with fail
        (with_reducible refine (one_any g (N + 4 + 200 * (8 - m) + 140) 30 _ hc8 (by omega) (by omega)).mono ?_)
        rintro e w12 ⟨v2, rfl, hc8n, f12, z12⟩
        clear hc8
        have hc8 := hc8n
        clear hc8n
        have s12 : w9.heap.size ≤ w12.heap.size := f12.size
        replace hF8 := hF8.trans f12
        replace ho8 := ho8.fr f12 (by omega)
        replace hold8 := hold8.fr f12 (by omega)
        replace hr8 := hr8.fr f12 (by omega)
        replace hn8' := hn8'.fr f12 (by omega)
        clear f12 z12
        cases v2 with
        | true =>
          go_wp2_with fail
          obtain ⟨w13, hw13⟩ : ∃ u, u = w12.alloc (.cells #[.int .i64 0, .int .i64 1, .int .i64 10, .int .i64 40] 3) := ⟨_, rfl⟩
          rw [← hw13]
          have e13 : w13.heap.size = w12.heap.size + 1 := by rw [hw13]; simp
          have s13 : w12.heap.size + 1 ≤ w13.heap.size := by omega
          have b13 : Below w12.heap.size w12 w13 := by rw [hw13]; exact (Below.refl _ _).alloc (Nat.le_refl _) _
          have r13 : Rd w13 (w12.heap.size) (w12.heap.size + 1) (some ⟨w12.heap.size, 0, none⟩) [0, 1, 10, 40] := by rw [hw13]; exact Rd.one _ _ _ _ rfl
          replace hF8 := hF8.then_below b13 hF8.size
          replace ho8 := ho8.st b13
          replace hold8 := hold8.st b13
          replace hr8 := hr8.st b13
          replace hn8' := hn8'.st b13
          replace hc8 := hc8.st b13
          replace e13 := Lib.hid e13
          clear b13 hw13
          (with_reducible refine (among_any g (N + 4 + 200 * (8 - m) + 140 + 2) [0, 1, 10, 40] _ 4 _ _ hc8 (by omega) r13 rfl (by simp) (by simp) (by omega)).mono ?_)
          rintro e w14 ⟨kk, rfl, hkk, hc8n, f14, z14⟩
          clear hc8
          have hc8 := hc8n
          clear hc8n
          have s14 : w13.heap.size ≤ w14.heap.size := f14.size
          replace hF8 := hF8.trans f14
          replace ho8 := ho8.fr f14 (by omega)
          replace hold8 := hold8.fr f14 (by omega)
          replace hr8 := hr8.fr f14 (by omega)
          replace hn8' := hn8'.fr f14 (by omega)
          replace r13 := r13.fr f14 (by omega)
          clear f14 z14
          clear hkk
          clear r13
          have hall := Lib.hid (And.intro (ho8.mono (Nat.le_refl _) (show _ ≤ w14.heap.size by omega)) (And.intro (hn8'.mono (Nat.le_refl _) (show _ ≤ w14.heap.size by omega)) (And.intro hc8 hF8)))
          clear ho8 hold8 hr8 hn8' hc8 hF8
          go_wp2_with fail
          go_roundw
          case rel => exact ⟨es', rows', A8, k8, c8, m - 1, _, rfl, rfl, by first | (congr 1; omega) | go_num, ⟨by omega, by omega⟩, hall.out.1, hall.out.2.1, hall.out.2.2.1.le (by omega), hall.out.2.2.2⟩
          case measure => simp [intOf]; omega
        | false =>
          go_wp2_with fail
          obtain ⟨w15, hw15⟩ : ∃ u, u = w12.alloc (.cells #[.int .i64 0, .int .i64 1, .int .i64 10, .int .i64 40] 3) := ⟨_, rfl⟩
          rw [← hw15]
          have e15 : w15.heap.size = w12.heap.size + 1 := by rw [hw15]; simp
          have s15 : w12.heap.size + 1 ≤ w15.heap.size := by omega
          have b15 : Below w12.heap.size w12 w15 := by rw [hw15]; exact (Below.refl _ _).alloc (Nat.le_refl _) _
          have r15 : Rd w15 (w12.heap.size) (w12.heap.size + 1) (some ⟨w12.heap.size, 0, none⟩) [0, 1, 10, 40] := by rw [hw15]; exact Rd.one _ _ _ _ rfl
          replace hF8 := hF8.then_below b15 hF8.size
          replace ho8 := ho8.st b15
          replace hold8 := hold8.st b15
          replace hr8 := hr8.st b15
          replace hn8' := hn8'.st b15
          replace hc8 := hc8.st b15
          replace e15 := Lib.hid e15
          clear b15 hw15
          (with_reducible refine (among_any g (N + 4 + 200 * (8 - m) + 140 + 2) [0, 1, 10, 40] _ 4 _ _ hc8 (by omega) r15 rfl (by simp) (by simp) (by omega)).mono ?_)
          rintro e w16 ⟨kk, rfl, hkk, hc8n, f16, z16⟩
          clear hc8
          have hc8 := hc8n
          clear hc8n
          have s16 : w15.heap.size ≤ w16.heap.size := f16.size
          replace hF8 := hF8.trans f16
          replace ho8 := ho8.fr f16 (by omega)
          replace hold8 := hold8.fr f16 (by omega)
          replace hr8 := hr8.fr f16 (by omega)
          replace hn8' := hn8'.fr f16 (by omega)
          replace r15 := r15.fr f16 (by omega)
          clear f16 z16
          clear hkk
          clear r15
          have hall := Lib.hid (And.intro (hold8.mono (Nat.le_refl _) (show _ ≤ w16.heap.size by omega)) (And.intro (hr8.mono (Nat.le_refl _) (show _ ≤ w16.heap.size by omega)) (And.intro hc8 hF8)))
          clear ho8 hold8 hr8 hn8' hc8 hF8
          go_wp2_with fail
          go_roundw
          case rel => exact ⟨es, rows, A, k, c, m - 1, _, rfl, rfl, by first | (congr 1; omega) | go_num, ⟨by omega, by omega⟩, hall.out.1, hall.out.2.1, hall.out.2.2.1.le (by omega), hall.out.2.2.2⟩
          case measure => simp [intOf]; omega
    · have hlt2 : ¬ (0 : Int) < (m : Int) := by omega
      obtain ⟨wl, rfl⟩ : ∃ wl, wl = wr := ⟨_, rfl⟩
      go_wp2_with fail
      (with_reducible refine (one_any g (N + 4 + 200 * (8 - m)) 24 _ hc (by omega) (by omega)).mono ?_)
      rintro e w17 ⟨v, rfl, hcn, f17, z17⟩
      clear hc
      have hc := hcn
      clear hcn
      have s17 : wl.heap.size ≤ w17.heap.size := f17.size
      replace hF := hF.trans f17
      replace ho := ho.fr f17 (by omega)
      replace hr := hr.fr f17 (by omega)
      clear f17 z17
      cases v with
      | false =>
        have hrd := ho.rdEw hr.rws
        have hklH := Lib.hid hrd.2.1
        have hall := Lib.hid (And.intro (hrd.1.mono (Nat.le_refl _) (show _ ≤ w17.heap.size by omega)) (And.intro hrd.2.2 (And.intro hc hF)))
        clear ho hr hc hF hrd
        go_wp2_with fail
        go_ret
        have hkl := hklH.out
        exact ⟨es, A, c, by rw [← hkl]; rfl, ⟨by omega, by omega, by rw [← hkl]; exact hall.out.2.1⟩, hall.out.1, hall.out.2.2.1.le (by omega), hall.out.2.2.2⟩
      | true =>
        clear ho hr
        go_wp2_with fail
        (with_reducible refine (pick_any g (N + 4 + 200 * (8 - m) + 2) 2 _ hc (by omega) (by omega)).mono ?_)
        rintro e w18 ⟨x2, rfl, hx2, hcn, f18, z18⟩
        clear hc
        have hc := hcn
        clear hcn
        have s18 : w17.heap.size ≤ w18.heap.size := f18.size
        replace hF := hF.trans f18
        clear f18 z18
        have hxb : 0 ≤ x2 ∧ x2 ≤ 1 := by omega
        clear hx2
        have v1 : IntKind.i64.wrap (30 + x2) = 30 + x2 := IntWalk.i64_in _ (by omega)
        go_wp2_with fail
        go_loopw [3] (fun u wq => ∃ (es : List Ent) (rows : List (List Value)) (A : Option Addr) (k c : Nat), u = .slice A k c ∧ ((k : Int) ≤ 30 + x2 ∧ eszL es ≤ 19 * es.length ∧ w18.heap.size ≤ wq.heap.size) ∧ OwnR wq w18.heap.size wq.heap.size 74 5 (.slice A k c) rows ∧ EntsOw wq w18.heap.size wq.heap.size es rows ∧ Cur wq g (N + 1800) ∧ Fr g (g + 1) w wq) (fun u _ => match u with | .slice _ k _ => 40 - k | _ => 0)
        case atStart => exact ⟨[], [], none, 0, 0, rfl, ⟨by omega, by rw [esz_nil]; omega, Nat.le_refl _⟩, OwnR.nil, EntsOw.nil, hc.le (by omega), hF⟩
        case round =>
          clear hc hF hem hez v1
          obtain ⟨es, rows, A, k, c, rfl, ⟨hk, hez, hsq⟩, ho, hr, hc, hF⟩ := hrel
          have hrd := ho.rdEw hr.rws
          have hgr := hc.lt
          obtain ⟨wm, rfl⟩ : ∃ wm, wm = wr := ⟨_, rfl⟩
          by_cases hlt : (k : Int) < 30 + x2
          · have hkl : k = es.length := hrd.2.1
            have hkb : k ≤ 31 := by omega
            have hkH := Lib.hid hkl
            have hklr : rows.length = es.length := hr.1
            have hklrH := Lib.hid hklr
            have hrl : rows.length + 1 ≤ 1073741824 := by omega
            have v2 : IntKind.i64.wrap (1 + (k : Int)) = 1 + (k : Int) := IntWalk.i64_in _ (by omega)
            have v2' : wrap64 (1 + (k : Int)) = 1 + (k : Int) := IntWalk.wrap64_in _ (by omega)
            have o1 : Own ((wm.alloc (.cells #[.int .i64 5] 3)).alloc (.cells #[.int .i64 5] 3)) wm.heap.size (wm.heap.size + 2) (.slice (some ⟨wm.heap.size, 0, none⟩) 1 1) [5] := (Own.made wm [5] _ rfl (by simp [maxLen]) (Nat.le_refl _) (by omega)).alloc _
            have o2 : Own ((wm.alloc (.cells #[.int .i64 5] 3)).alloc (.cells #[.int .i64 5] 3)) wm.heap.size (wm.heap.size + 2) (.slice (some ⟨wm.heap.size + 1, 0, none⟩) 1 1) [5] := by
                          have h := Own.made (wm.alloc (.cells #[.int .i64 5] 3)) (lo := wm.heap.size) (hi := wm.heap.size + 2) [5] #[.int .i64 5] rfl (by simp [maxLen]) (by simp) (by simp)
                          simpa using h
            have ho2 := Lib.hid (((ho.alloc (.cells #[.int .i64 5] 3)).alloc (.cells #[.int .i64 5] 3)).alloc (.cells #[.int .i64 (k : Int), .int .i64 (1 + (k : Int)), .int .i64 0, .slice (some ⟨wm.heap.size, 0, none⟩) 1 1, .slice (some ⟨wm.heap.size + 1, 0, none⟩) 1 1] 74))
            have hr2 := Lib.hid (((hr.alloc (.cells #[.int .i64 5] 3)).alloc (.cells #[.int .i64 5] 3)).alloc (.cells #[.int .i64 (k : Int), .int .i64 (1 + (k : Int)), .int .i64 0, .slice (some ⟨wm.heap.size, 0, none⟩) 1 1, .slice (some ⟨wm.heap.size + 1, 0, none⟩) 1 1] 74))
            have oy2 := Lib.hid (o1.alloc (.cells #[.int .i64 (k : Int), .int .i64 (1 + (k : Int)), .int .i64 0, .slice (some ⟨wm.heap.size, 0, none⟩) 1 1, .slice (some ⟨wm.heap.size + 1, 0, none⟩) 1 1] 74))
            have oz2 := Lib.hid (o2.alloc (.cells #[.int .i64 (k : Int), .int .i64 (1 + (k : Int)), .int .i64 0, .slice (some ⟨wm.heap.size, 0, none⟩) 1 1, .slice (some ⟨wm.heap.size + 1, 0, none⟩) 1 1] 74))
            have hc2 := Lib.hid (((hc.alloc (.cells #[.int .i64 5] 3)).alloc (.cells #[.int .i64 5] 3)).alloc (.cells #[.int .i64 (k : Int), .int .i64 (1 + (k : Int)), .int .i64 0, .slice (some ⟨wm.heap.size, 0, none⟩) 1 1, .slice (some ⟨wm.heap.size + 1, 0, none⟩) 1 1] 74))
            have hF2 := Lib.hid (((hF.alloc (.cells #[.int .i64 5] 3)).alloc (.cells #[.int .i64 5] 3)).alloc (.cells #[.int .i64 (k : Int), .int .i64 (1 + (k : Int)), .int .i64 0, .slice (some ⟨wm.heap.size, 0, none⟩) 1 1, .slice (some ⟨wm.heap.size + 1, 0, none⟩) 1 1] 74))
            have bSH : Hid (Bk (((wm.alloc (.cells #[.int .i64 5] 3)).alloc (.cells #[.int .i64 5] 3)).alloc (.cells #[.int .i64 (k : Int), .int .i64 (1 + (k : Int)), .int .i64 0, .slice (some ⟨wm.heap.size, 0, none⟩) 1 1, .slice (some ⟨wm.heap.size + 1, 0, none⟩) 1 1] 74)) (wm.heap.size + 2) 74 #[.int .i64 (k : Int), .int .i64 (1 + (k : Int)), .int .i64 0, .slice (some ⟨wm.heap.size, 0, none⟩) 1 1, .slice (some ⟨wm.heap.size + 1, 0, none⟩) 1 1]) := Lib.hid (Bk.new3 wm _ _ _ _)
            clear ho hr o1 o2 hc hF hrd hkl hklr
            go_wp2_with (at_builtin; refine wp_append_ent (g := wm.heap.size + 2) (cc := 1) rfl (.tmp 45) (.tmp 54) rfl (v := .slice A k c) rfl ho2.out rfl (bk_cells (row := [.int .i64 (k : Int), .int .i64 (1 + (k : Int)), .int .i64 0, .slice (some ⟨wm.heap.size, 0, none⟩) 1 1, .slice (some ⟨wm.heap.size + 1, 0, none⟩) 1 1]) bSH.out) rfl (by intro u hu; simp at hu; rcases hu with rfl | rfl | rfl | rfl | rfl <;> rfl) hrl (by simp; omega) ?_; intro v8 w8 ho8 hold8 hg8 hb8; (obtain ⟨A8, c8, rfl, -⟩ := ho8.cells); (have hk8 : (rows ++ [[Value.int .i64 (k : Int), Value.int .i64 (1 + (k : Int)), Value.int .i64 0, Value.slice (some ⟨wm.heap.size, 0, none⟩) 1 1, Value.slice (some ⟨wm.heap.size + 1, 0, none⟩) 1 1]]).length = k + 1 := by have h1 := hklrH.out; have h2 := hkH.out; rw [List.length_append, h1, ← h2]; rfl); rw [hk8] at ho8 ⊢)
            clear v2 v2'
            have hs8 : wm.heap.size + 3 ≤ w8.heap.size := by have := hb8.size; simpa using this
            have hki : KeepI _ w8 := KeepI.grown ho2.out hg8 (by decide)
            have hr8 := (hr2.out.keepI hki).mono (Nat.le_refl _) (show _ ≤ w8.heap.size by omega)
            have hn8' := hr8.snoc (e := ⟨(k : Int), 1 + (k : Int), 0, [5], [5]⟩) ⟨_, _, rfl, (oy2.out.keepI hki).mono hsq (by omega), (oz2.out.keepI hki).mono hsq (by omega)⟩
            have hc8 := hc2.out.below hb8 (by omega)
            have hF8 := hF2.out.then_below hb8 (by omega)
            refine ⟨⟨_, _, A8, k + 1, c8, rfl, ⟨by omega, by rw [esz_append, esz_one, List.length_append, List.length_singleton]; simp only [List.length_cons, List.length_nil]; omega, by omega⟩, ho8, hn8', hc8, hF8⟩, ?_⟩
            simp
            omega
          · have hklH := Lib.hid hrd.2.1
            have hkl : es.length = k := hrd.2.1.symm
            have hkb : es.length ≤ 31 ∧ eszL es ≤ 600 := by omega
            have hall := Lib.hid (And.intro (hrd.1.mono (show w.heap.size ≤ _ by omega) (Nat.le_refl _)) (And.intro hrd.2.2 (And.intro hc hF)))
            clear ho hr hc hF hrd hkl
            go_wp2_with fail
            go_ret
            have hkl := hklH.out
            exact ⟨es, A, c, by rw [← hkl]; rfl, ⟨hkb.1, hkb.2, by rw [← hkl]; exact hall.out.2.1⟩, hall.out.1, hall.out.2.2.1.le (by omega), hall.out.2.2.2⟩
end Go.Proofs.YtjhbffndiaggmaaGreatDoor

/-
  Contracts of the draws of logs. The conditions are bounds on lengths.
-/
namespace Go.Proofs.YtjhbffndiaggmaaGreatDoor
open Go.RowKit Go.ChangeShapes Go.WideShapes
set_option linter.unusedVariables false
set_option linter.unusedSimpArgs false

set_option maxRecDepth 100000 in
set_option maxHeartbeats 4000000 in
theorem drawIsLog_any (A0 : Option Addr) (n c0 : Nat) (w : World) (hcd : CodeAt w w.heap.size A0 n) (hn : n ≤ 9223372036854775807) (hnc : n ≤ c0) :
    Calls Tryz.prog 125 #[.slice A0 n c0] w fun e w' => ∃ (es : List Ent) (A : Option Addr) (c : Nat), e = .returned (.slice A es.length c) ∧ (es.length ≤ 31 ∧ eszL es ≤ 600 ∧ es.length ≤ c) ∧ RdE w' w.heap.size w'.heap.size A es ∧ Below w.heap.size w w' := by
  go_enter Tryz.func125, Tryz.ntmps125
  go_wp2_with fail
  obtain ⟨w1, hw1⟩ : ∃ u, u = w.alloc (.cells #[.slice A0 n c0, .int .i64 0, .int .u64 0] 102) := ⟨_, rfl⟩
  rw [← hw1]
  have e1 : w1.heap.size = w.heap.size + 1 := by rw [hw1]; simp
  have s1 : w.heap.size + 1 ≤ w1.heap.size := by omega
  have b1 : Below w.heap.size w w1 := by rw [hw1]; exact (Below.refl _ _).alloc (Nat.le_refl _) _
  have hc : Cur w1 w.heap.size 0 := by rw [hw1]; exact Cur.fresh hcd hn hnc
  have hF := Fr.refl w.heap.size (w.heap.size + 1) w1
  clear hw1
  (with_reducible refine (log_any w.heap.size 0 _ hc (by omega)).mono ?_)
  rintro e w2 ⟨es, A, c, rfl, hb, hr, hcn, f2⟩
  clear hc
  have hc := hcn
  clear hcn
  have s2 : w1.heap.size ≤ w2.heap.size := f2.size
  replace hF := hF.trans f2
  clear f2
  have hB := Lib.hid (b1.trans (hF.below (B := w.heap.size) (Nat.le_refl _) (by omega)))
  have hrH := Lib.hid (hr.mono (show w.heap.size ≤ _ by omega) (Nat.le_refl _))
  clear hc hF hr
  go_wp2_with fail
  go_ret
  exact ⟨es, A, c, rfl, hb, hrH.out, hB.out⟩
set_option maxRecDepth 100000 in
set_option maxHeartbeats 4000000 in
theorem pSameLog_t (es : List Ent) (A A' : Option Addr) (k k' c c' : Nat) {l h l' h' : Nat} (w : World) (hk : k = es.length) (hk' : k' = es.length) (hx0 : RdE w l h A es) (hy0 : RdE w l' h' A' es) (hl : eszL es ≤ 1048576) :
    Calls Tryz.prog 58 #[.slice A k c, .slice A' k' c'] w fun e w' => e = .returned (.bool true) ∧ Below w.heap.size w w' := by
  subst hk hk'
  have hx := hx0.std
  have hy := hy0.std
  clear hx0 hy0
  have hel := esz_len es
  go_enter Tryz.func58, Tryz.ntmps58
  go_wp2_with fail
  go_loopw [13] (fun i wr => ∃ k : Nat, k ≤ es.length ∧ i = .int .i64 k ∧ Below w.heap.size w wr) (fun i _ => es.length - (intOf i).toNat)
  case atStart => exact ⟨0, Nat.zero_le _, rfl, Below.refl _ _⟩
  case round =>
    obtain ⟨k, hk, rfl, hbr⟩ := hrel
    by_cases hlt : k < es.length
    · obtain ⟨b, off, rfl, _, _, hc⟩ := (hx.below hbr (Nat.le_refl _)) (by omega)
      obtain ⟨A1, c1, A2, c2, x0, x1, x2, x3, x4, r1, r2⟩ := hc k hlt
      obtain ⟨b', off', rfl, _, _, hc'⟩ := (hy.below hbr (Nat.le_refl _)) (by omega)
      obtain ⟨A3, c3, A4, c4, y0, y1, y2, y3, y4, r3, r4⟩ := hc' k hlt
      have hat := esz_at es k hlt
      have i0 : (0 : Int) ≤ (k : Int) := by omega
      have i1 : (k : Int) < (es.length : Int) := by omega
      have q1 : es[k].seen.length ≤ 1048576 := by omega
      have q2 : es[k].shown.length ≤ 1048576 := by omega
      clear hc hc' hat
      generalize es[k] = ek at *
      have bb1 : b < wr.heap.size := World.block_lt_of_cell? wr _ x0
      have bb2 : b' < wr.heap.size := World.block_lt_of_cell? wr _ y0
      go_wp2_with fail
      simp only [List.append]
      go_region_held3 (fun w' => w'.cell? ⟨b, off + k * 5, none⟩ = some (.int .i64 ek.time) ∧ w'.cell? ⟨b, off + k * 5 + 1, none⟩ = some (.int .i64 ek.msg) ∧ w'.cell? ⟨b, off + k * 5 + 2, none⟩ = some (.int .i64 ek.part) ∧
          w'.cell? ⟨b, off + k * 5 + 3, none⟩ = some (.slice A1 ek.seen.length c1) ∧ w'.cell? ⟨b, off + k * 5 + 4, none⟩ = some (.slice A2 ek.shown.length c2) ∧
          w'.cell? ⟨b', off' + k * 5, none⟩ = some (.int .i64 ek.time) ∧ w'.cell? ⟨b', off' + k * 5 + 1, none⟩ = some (.int .i64 ek.msg) ∧ w'.cell? ⟨b', off' + k * 5 + 2, none⟩ = some (.int .i64 ek.part) ∧
          w'.cell? ⟨b', off' + k * 5 + 3, none⟩ = some (.slice A3 ek.seen.length c3) ∧ w'.cell? ⟨b', off' + k * 5 + 4, none⟩ = some (.slice A4 ek.shown.length c4))
        (((try go_split_ands); (try dsimp only); (repeat' apply And.intro) <;> (first | assumption | ((refine (hc7 _ _ ?_).trans ?_) <;> assumption) | ((refine (hc8 _ _ ?_).trans ((hc7 _ _ ?_).trans ?_)) <;> assumption))))
        (first
          | (go_at_call 24; ((with_reducible refine (sameInts_t ek.seen A1 A3 ek.seen.length ek.seen.length c1 c3 _ rfl rfl r1.drew r3.drew q1).mono ?_); rintro e w7 ⟨rfl, hb7⟩; (have hc7 := (bcell hb7).1); (have r2b := r2.drew.st hb7); (have r4b := r4.drew.st hb7); (have bb1b : b < w7.heap.size := Nat.lt_of_lt_of_le bb1 hb7.size); (have bb2b : b' < w7.heap.size := Nat.lt_of_lt_of_le bb2 hb7.size)))
          | (go_at_call 24; ((with_reducible refine (sameInts_t ek.shown A2 A4 ek.shown.length ek.shown.length c2 c4 _ rfl rfl r2b r4b q2).mono ?_); rintro e w8 ⟨rfl, hb8⟩; (have hc8 := (bcell hb8).1))))
      have hB2 := Lib.hid (hbr.drew.trans ((hb7.trans (hb8.mono hb7.size)).mono hbr.size))
      clear hb7 hb8 hc7 hc8 x0 x1 x2 x3 x4 y0 y1 y2 y3 y4 r1 r2 r3 r4 r2b r4b hbr bb1 bb2 bb1b bb2b
      go_wp2_with fail
      go_roundw
      case rel => exact ⟨k + 1, by omega, by go_num, hB2.out⟩
      case measure => simp [intOf]; omega
    · have hlt2 : ¬ ((k : Int) < (es.length : Int)) := by omega
      go_wp2_with fail
      go_ret
      exact ⟨rfl, hbr⟩
end Go.Proofs.YtjhbffndiaggmaaGreatDoor

/-
  The contract of passedOn of the drawn logs. The conditions are bounds on how often the cursor has been asked.
-/
namespace Go.Proofs.YtjhbffndiaggmaaGreatDoor
open Go.RowKit Go.ChangeShapes Go.WideShapes
set_option linter.unusedVariables false
set_option linter.unusedSimpArgs false

theorem sg_len8 {zs : List Int} (h : sgB zs = true) : 0 < zs.length ∧ zs.length ≤ 8 := by
  unfold sgB at h
  rw [Bool.and_eq_true] at h
  have := inB_iff.1 h.1
  omega
theorem alloc_size_le {w : World} {g : Nat} {t : TypeId} {cs : Array Value} (h : Bk w g t cs) (t' : TypeId) (cs' : Array Value) : w.heap.size + 1 ≤ (w.alloc (.cells cs' t')).heap.size := by simp
theorem drew_alloc_cell {w : World} {o : Obj} {p : Addr} {v : Value} (h : p.block < w.heap.size) (hc : w.drew.cell? p = some v) : (w.alloc o).drew.cell? p = some v := (World.cell?_alloc_lt w o p h).trans hc
theorem Bk.next {w : World} {g : Nat} {t : TypeId} {cs : Array Value} (h : Bk w g t cs) (t' : TypeId) (cs' : Array Value) : Bk (w.alloc (.cells cs' t')) w.heap.size t' cs' := Bk.new w t' cs'
theorem EntsOw.setCell {w : World} {lo hi : Nat} {es : List Ent} {rows : List (List Value)} (h : EntsOw w lo hi es rows) {p : Addr} (hp : p.block < lo ∨ hi ≤ p.block) (u : Value) : EntsOw (w.setCell p u) lo hi es rows := h.map fun x => x.setCell hp u
theorem EntRow.drew {w : World} {lo hi : Nat} {e : Ent} {r : List Value} (h : EntRow w lo hi e r) : EntRow w.drew lo hi e r := h
theorem l1Least_w (a b : Int) (w : World) :
    Calls Tryz.prog 217 #[.int .i64 a, .int .i64 b] w fun e w' => ∃ x : Int, e = .returned (.int .i64 x) ∧ (x = a ∨ x = b) ∧ w = w' := by
  by_cases h : a < b
  · go_enter Tryz.func217, Tryz.ntmps217
    go_wp2_with fail
    go_ret
    exact ⟨a, rfl, .inl rfl, rfl⟩
  · go_enter Tryz.func217, Tryz.ntmps217
    go_wp2_with fail
    go_ret
    exact ⟨b, rfl, .inr rfl, rfl⟩
theorem l1Own_k (zs : List Int) (A : Option Addr) (n c : Nat) {l h : Nat} (w : World) (hn : n = zs.length) (hr0 : Rd w l h A zs) (hl : zs.length ≤ 1000000000000) :
    Calls Tryz.prog 94 #[.slice A n c] w fun e w' => ∃ v, e = .returned v ∧ Own w' w.heap.size w'.heap.size v zs ∧ Below w.heap.size w w' := by
  subst hn; exact l1Own_any zs A c w hr0 hl
/-- the time of the last entry of a slice that a call has made -/
theorem po_last {w : World} {lo hi k c : Nat} {D : Option Addr} {fs : List Ent} {rows : List (List Value)} (ho : OwnR w lo hi 74 5 (.slice D k c) rows) (hr : EntsOw w lo hi fs rows) (hk : 0 < k) :
    ∃ gd t, D = some ⟨gd, 0, none⟩ ∧ lo ≤ gd ∧ gd < hi ∧ w.cell? ⟨gd, (k - 1) * 5, none⟩ = some (.int .i64 t) := by
  obtain ⟨A', c', he, -, -, -, hx⟩ := ho.cells
  injection he with e1 e2 e3
  subst e1 e2 e3
  obtain ⟨gd, rfl, h1, h2, h3, -, hcell⟩ := hx hk
  obtain ⟨u, v, hrow, -, -⟩ := hr.2 (rows.length - 1) (by have := hr.1; omega) (by omega)
  refine ⟨gd, (fs[rows.length - 1]'(by have := hr.1; omega)).time, rfl, h1, h2, ?_⟩
  have h := hcell (rows.length - 1) (by omega) 0 (by omega)
  rw [hrow] at h
  simpa using h
section
variable {w wr W : World} {g N k c la X c3 c4 d1 d2 l1 h1 l2 h2 : Nat} {A3 A4 B1 B2 D : Option Addr} {ek : Ent} {ss zs : List Int} {rows : List (List Value)} {fs : List Ent} {T : Int}
set_option maxHeartbeats 4000000 in
theorem po_store (bX : Bk W X 74 #[.int .i64 0, .int .i64 0, .int .i64 0, .slice none 0 0, .slice none 0 0]) (bE : Bk W wr.heap.size 74 #[.int .i64 ek.time, .int .i64 ek.msg, .int .i64 ek.part, .slice A3 ek.seen.length c3, .slice A4 ek.shown.length c4]) (o1 : Own W l1 h1 (.slice B1 ss.length d1) ss) (o2 : Own W l2 h2 (.slice B2 zs.length d2) zs)
    (ho : OwnR W w.heap.size wr.heap.size 74 5 (.slice D k c) rows) (hr : EntsOw W w.heap.size wr.heap.size fs rows) (hc : Cur W g N) (hF : Fr g (g + 1) w W) (hX : wr.heap.size + 1 ≤ X) (hg : g < wr.heap.size) (hs : w.heap.size ≤ wr.heap.size) (q5 : X < l1 ∨ h1 ≤ X) (q6 : X < l2 ∨ h2 ≤ X) :
    Hid (Bk (((((W.setCell ⟨X, 0, none⟩ (.int .i64 T)).setCell ⟨X, 1, none⟩ (.int .i64 ek.msg)).setCell ⟨X, 2, none⟩ (.int .i64 ek.part)).setCell ⟨X, 3, none⟩ (.slice B1 ss.length d1)).setCell ⟨X, 4, none⟩ (.slice B2 zs.length d2)) X 74 #[.int .i64 T, .int .i64 ek.msg, .int .i64 ek.part, .slice B1 ss.length d1, .slice B2 zs.length d2] ∧ Own (((((W.setCell ⟨X, 0, none⟩ (.int .i64 T)).setCell ⟨X, 1, none⟩ (.int .i64 ek.msg)).setCell ⟨X, 2, none⟩ (.int .i64 ek.part)).setCell ⟨X, 3, none⟩ (.slice B1 ss.length d1)).setCell ⟨X, 4, none⟩ (.slice B2 zs.length d2)) l1 h1 (.slice B1 ss.length d1) ss ∧ Own (((((W.setCell ⟨X, 0, none⟩ (.int .i64 T)).setCell ⟨X, 1, none⟩ (.int .i64 ek.msg)).setCell ⟨X, 2, none⟩ (.int .i64 ek.part)).setCell ⟨X, 3, none⟩ (.slice B1 ss.length d1)).setCell ⟨X, 4, none⟩ (.slice B2 zs.length d2)) l2 h2 (.slice B2 zs.length d2) zs ∧ Bk (((((W.setCell ⟨X, 0, none⟩ (.int .i64 T)).setCell ⟨X, 1, none⟩ (.int .i64 ek.msg)).setCell ⟨X, 2, none⟩ (.int .i64 ek.part)).setCell ⟨X, 3, none⟩ (.slice B1 ss.length d1)).setCell ⟨X, 4, none⟩ (.slice B2 zs.length d2)) wr.heap.size 74 #[.int .i64 ek.time, .int .i64 ek.msg, .int .i64 ek.part, .slice A3 ek.seen.length c3, .slice A4 ek.shown.length c4] ∧ OwnR (((((W.setCell ⟨X, 0, none⟩ (.int .i64 T)).setCell ⟨X, 1, none⟩ (.int .i64 ek.msg)).setCell ⟨X, 2, none⟩ (.int .i64 ek.part)).setCell ⟨X, 3, none⟩ (.slice B1 ss.length d1)).setCell ⟨X, 4, none⟩ (.slice B2 zs.length d2)) w.heap.size wr.heap.size 74 5 (.slice D k c) rows ∧ EntsOw (((((W.setCell ⟨X, 0, none⟩ (.int .i64 T)).setCell ⟨X, 1, none⟩ (.int .i64 ek.msg)).setCell ⟨X, 2, none⟩ (.int .i64 ek.part)).setCell ⟨X, 3, none⟩ (.slice B1 ss.length d1)).setCell ⟨X, 4, none⟩ (.slice B2 zs.length d2)) w.heap.size wr.heap.size fs rows ∧ Cur (((((W.setCell ⟨X, 0, none⟩ (.int .i64 T)).setCell ⟨X, 1, none⟩ (.int .i64 ek.msg)).setCell ⟨X, 2, none⟩ (.int .i64 ek.part)).setCell ⟨X, 3, none⟩ (.slice B1 ss.length d1)).setCell ⟨X, 4, none⟩ (.slice B2 zs.length d2)) g N ∧ Fr g (g + 1) w (((((W.setCell ⟨X, 0, none⟩ (.int .i64 T)).setCell ⟨X, 1, none⟩ (.int .i64 ek.msg)).setCell ⟨X, 2, none⟩ (.int .i64 ek.part)).setCell ⟨X, 3, none⟩ (.slice B1 ss.length d1)).setCell ⟨X, 4, none⟩ (.slice B2 zs.length d2))) := by
  have hXw : w.heap.size ≤ X := by omega
  refine ⟨?_, ?_, ?_, ?_, ?_, ?_, ?_, ?_⟩
  · simpa using ((((bX.set_ 0 (.int .i64 T)).set_ 1 (.int .i64 ek.msg)).set_ 2 (.int .i64 ek.part)).set_ 3 (.slice B1 ss.length d1)).set_ 4 (.slice B2 zs.length d2)
  · exact (((((o1.setCell (p := ⟨X, 0, none⟩) (by dsimp only; omega) (.int .i64 T)).setCell (p := ⟨X, 1, none⟩) (by dsimp only; omega) (.int .i64 ek.msg)).setCell (p := ⟨X, 2, none⟩) (by dsimp only; omega) (.int .i64 ek.part)).setCell (p := ⟨X, 3, none⟩) (by dsimp only; omega) (.slice B1 ss.length d1)).setCell (p := ⟨X, 4, none⟩) (by dsimp only; omega) (.slice B2 zs.length d2))
  · exact (((((o2.setCell (p := ⟨X, 0, none⟩) (by dsimp only; omega) (.int .i64 T)).setCell (p := ⟨X, 1, none⟩) (by dsimp only; omega) (.int .i64 ek.msg)).setCell (p := ⟨X, 2, none⟩) (by dsimp only; omega) (.int .i64 ek.part)).setCell (p := ⟨X, 3, none⟩) (by dsimp only; omega) (.slice B1 ss.length d1)).setCell (p := ⟨X, 4, none⟩) (by dsimp only; omega) (.slice B2 zs.length d2))
  · exact (((((bE.far (p := ⟨X, 0, none⟩) (by dsimp only; omega) (.int .i64 T)).far (p := ⟨X, 1, none⟩) (by dsimp only; omega) (.int .i64 ek.msg)).far (p := ⟨X, 2, none⟩) (by dsimp only; omega) (.int .i64 ek.part)).far (p := ⟨X, 3, none⟩) (by dsimp only; omega) (.slice B1 ss.length d1)).far (p := ⟨X, 4, none⟩) (by dsimp only; omega) (.slice B2 zs.length d2))
  · exact (((((ho.setCell (p := ⟨X, 0, none⟩) (by dsimp only; omega) (.int .i64 T)).setCell (p := ⟨X, 1, none⟩) (by dsimp only; omega) (.int .i64 ek.msg)).setCell (p := ⟨X, 2, none⟩) (by dsimp only; omega) (.int .i64 ek.part)).setCell (p := ⟨X, 3, none⟩) (by dsimp only; omega) (.slice B1 ss.length d1)).setCell (p := ⟨X, 4, none⟩) (by dsimp only; omega) (.slice B2 zs.length d2))
  · exact (((((hr.setCell (p := ⟨X, 0, none⟩) (by dsimp only; omega) (.int .i64 T)).setCell (p := ⟨X, 1, none⟩) (by dsimp only; omega) (.int .i64 ek.msg)).setCell (p := ⟨X, 2, none⟩) (by dsimp only; omega) (.int .i64 ek.part)).setCell (p := ⟨X, 3, none⟩) (by dsimp only; omega) (.slice B1 ss.length d1)).setCell (p := ⟨X, 4, none⟩) (by dsimp only; omega) (.slice B2 zs.length d2))
  · exact (((((hc.setCell (p := ⟨X, 0, none⟩) (by dsimp only; omega) (.int .i64 T)).setCell (p := ⟨X, 1, none⟩) (by dsimp only; omega) (.int .i64 ek.msg)).setCell (p := ⟨X, 2, none⟩) (by dsimp only; omega) (.int .i64 ek.part)).setCell (p := ⟨X, 3, none⟩) (by dsimp only; omega) (.slice B1 ss.length d1)).setCell (p := ⟨X, 4, none⟩) (by dsimp only; omega) (.slice B2 zs.length d2))
  · exact (((((hF.setNew (p := ⟨X, 0, none⟩) hXw (.int .i64 T)).setNew (p := ⟨X, 1, none⟩) hXw (.int .i64 ek.msg)).setNew (p := ⟨X, 2, none⟩) hXw (.int .i64 ek.part)).setNew (p := ⟨X, 3, none⟩) hXw (.slice B1 ss.length d1)).setNew (p := ⟨X, 4, none⟩) hXw (.slice B2 zs.length d2))
theorem po_far1 {W : World} {B X i k : Nat} {b v : Value} (hi : W.cell? ⟨B, i, none⟩ = some b) (hX : B + 1 ≤ X) : (W.setCell ⟨X, k, none⟩ v).cell? ⟨B, i, none⟩ = some b :=
  (World.cell?_setCell_other W ⟨X, k, none⟩ ⟨B, i, none⟩ v (fun e => by injection e with e; omega)).trans hi
theorem po_far {b : Value} {i : Nat} (hi : W.cell? ⟨wr.heap.size, i, none⟩ = some b) (hX : wr.heap.size + 1 ≤ X) (a0 a1 a2 a3 a4 : Value) : ((((((W.setCell ⟨X, 0, none⟩ a0).setCell ⟨X, 1, none⟩ a1).setCell ⟨X, 2, none⟩ a2).setCell ⟨X, 3, none⟩ a3).setCell ⟨X, 4, none⟩ a4)).cell? ⟨wr.heap.size, i, none⟩ = some b :=
  po_far1 (po_far1 (po_far1 (po_far1 (po_far1 hi hX) hX) hX) hX) hX
theorem po_alloc (bE : Bk W wr.heap.size 74 #[.int .i64 ek.time, .int .i64 ek.msg, .int .i64 ek.part, .slice A3 ek.seen.length c3, .slice A4 ek.shown.length c4]) (o1 : Own W l1 h1 (.slice B1 ss.length d1) ss) (o2 : Own W l2 h2 (.slice B2 zs.length d2) zs)
    (ho : OwnR W w.heap.size wr.heap.size 74 5 (.slice D k c) rows) (hr : EntsOw W w.heap.size wr.heap.size fs rows) (hc : Cur W g N) (hF : Fr g (g + 1) w W) :
    Hid (Bk (W.alloc (.cells #[.int .i64 T, .int .i64 ek.msg, .int .i64 ek.part, .slice B1 ss.length d1, .slice B2 zs.length d2] 74)) W.heap.size 74 #[.int .i64 T, .int .i64 ek.msg, .int .i64 ek.part, .slice B1 ss.length d1, .slice B2 zs.length d2] ∧ Own (W.alloc (.cells #[.int .i64 T, .int .i64 ek.msg, .int .i64 ek.part, .slice B1 ss.length d1, .slice B2 zs.length d2] 74)) l1 h1 (.slice B1 ss.length d1) ss ∧ Own (W.alloc (.cells #[.int .i64 T, .int .i64 ek.msg, .int .i64 ek.part, .slice B1 ss.length d1, .slice B2 zs.length d2] 74)) l2 h2 (.slice B2 zs.length d2) zs ∧ Bk (W.alloc (.cells #[.int .i64 T, .int .i64 ek.msg, .int .i64 ek.part, .slice B1 ss.length d1, .slice B2 zs.length d2] 74)) wr.heap.size 74 #[.int .i64 ek.time, .int .i64 ek.msg, .int .i64 ek.part, .slice A3 ek.seen.length c3, .slice A4 ek.shown.length c4] ∧ OwnR (W.alloc (.cells #[.int .i64 T, .int .i64 ek.msg, .int .i64 ek.part, .slice B1 ss.length d1, .slice B2 zs.length d2] 74)) w.heap.size wr.heap.size 74 5 (.slice D k c) rows ∧ EntsOw (W.alloc (.cells #[.int .i64 T, .int .i64 ek.msg, .int .i64 ek.part, .slice B1 ss.length d1, .slice B2 zs.length d2] 74)) w.heap.size wr.heap.size fs rows ∧ Cur (W.alloc (.cells #[.int .i64 T, .int .i64 ek.msg, .int .i64 ek.part, .slice B1 ss.length d1, .slice B2 zs.length d2] 74)) g N ∧ Fr g (g + 1) w (W.alloc (.cells #[.int .i64 T, .int .i64 ek.msg, .int .i64 ek.part, .slice B1 ss.length d1, .slice B2 zs.length d2] 74))) :=
  ⟨Bk.new W _ _, o1.alloc _, o2.alloc _, bE.alloc _, ho.alloc _, hr.alloc _, hc.alloc _, hF.alloc _⟩
end
end Go.Proofs.YtjhbffndiaggmaaGreatDoor
