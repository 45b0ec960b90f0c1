/-
  Contracts of ReceiveSecret, in the program and in the reference. The conditions are bounds on lengths, and that there is room for what is read.
-/
import Derived.Test.YteajjbfecpffeaaHideM
namespace Go.Proofs.Yteajjbfecpffeaa
open Go.RowKit Go.ChangeShapes Go.WideShapes
set_option linter.unusedVariables false
set_option linter.unusedSimpArgs false

theorem set3 {B g : Nat} {w w' : World} (h : Below B w w') (h1 : B ≤ g) (a b c : Value) : Below B w (((w'.setCell ⟨g, 0, none⟩ a).setCell ⟨g, 1, none⟩ b).setCell ⟨g, 2, none⟩ c) :=
  ((h.setCell (p := ⟨g, 0, none⟩) h1 a).setCell (p := ⟨g, 1, none⟩) h1 b).setCell (p := ⟨g, 2, none⟩) h1 c
theorem Own.st3 {lo hi g : Nat} {w : World} {v : Value} {zs : List Int} (h : Own w lo hi v zs) (h1 : g < lo ∨ hi ≤ g) (a b c : Value) : Own (((w.setCell ⟨g, 0, none⟩ a).setCell ⟨g, 1, none⟩ b).setCell ⟨g, 2, none⟩ c) lo hi v zs :=
  ((h.setCell (p := ⟨g, 0, none⟩) h1 a).setCell (p := ⟨g, 1, none⟩) h1 b).setCell (p := ⟨g, 2, none⟩) h1 c
theorem Rd.st3 {lo hi g : Nat} {w : World} {A : Option Addr} {zs : List Int} (h : Rd w lo hi A zs) (h1 : hi ≤ g ∨ g < lo) (a b c : Value) : Rd (((w.setCell ⟨g, 0, none⟩ a).setCell ⟨g, 1, none⟩ b).setCell ⟨g, 2, none⟩ c) lo hi A zs :=
  ((h.store (p := ⟨g, 0, none⟩) h1 a).store (p := ⟨g, 1, none⟩) h1 b).store (p := ⟨g, 2, none⟩) h1 c
theorem Bk.far3 {w : World} {g g' : Nat} {t : TypeId} {cs : Array Value} (h : Bk w g t cs) (h1 : g ≠ g') (a b c : Value) : Bk (((w.setCell ⟨g', 0, none⟩ a).setCell ⟨g', 1, none⟩ b).setCell ⟨g', 2, none⟩ c) g t cs :=
  ((h.far (p := ⟨g', 0, none⟩) h1 a).far (p := ⟨g', 1, none⟩) h1 b).far (p := ⟨g', 2, none⟩) h1 c
theorem size_st3 (w : World) (g : Nat) (a b c : Value) : (((w.setCell ⟨g, 0, none⟩ a).setCell ⟨g, 1, none⟩ b).setCell ⟨g, 2, none⟩ c).heap.size = w.heap.size := by simp only [size_setCell]
theorem os_part {k1 p1 : Int} {us y z : List Int} (h : osB k1 p1 us y z = true) : kbB k1 p1 us = true ∧ y.Nodup ∧ (∀ k (_ : k < y.length), 0 ≤ y[k] ∧ y[k] ≤ p1 - 1) ∧ y.length ≤ 60 ∧ us.length ≤ 60 := by
  simp only [osB, Bool.and_eq_true] at h
  have h2 := h.2.1
  simp only [scB, Bool.and_eq_true, decide_eq_true_eq] at h2
  have h3 := allB_iff.1 h.2.2
  have h4 := kb_len h.1
  have h5 := (kb_facts h.1).2.1
  refine ⟨h.1, h2.2.2.2.2, h3, ?_, by omega⟩
  have := h2.2.2.1
  simp only [ndP] at this
  omega
theorem iUp_no (k1 p1 : Int) (z1 : List Int) (A1 : Option Addr) (c1 : Nat) (page : Int) {l h : Nat} (w : World) (ho0 : Own w l h (.slice A1 z1.length c1) z1) (hl : z1.length ≤ 1048576) (hb : upB k1 p1 z1 page = false) :
    Calls Try.prog 81 #[.agg #[.int .i64 k1, .int .i64 p1, .slice A1 z1.length c1], .int .i64 page] w fun e w' => ∃ A c, e = .returned (.tuple #[.agg #[.int .i64 0, .int .i64 0, .slice A 0 c], .bool false]) ∧ Below w.heap.size w w' := by
  refine (iUsePage_any k1 p1 z1 A1 c1 page w ho0 hl).mono fun e w' h => ?_
  obtain ⟨h1, h2, h3⟩ := up_no hb
  rw [h1, h2, h3, hb] at h
  obtain ⟨A, c, rfl, _, _, hB⟩ := h
  exact ⟨A, c, rfl, hB⟩
theorem iUp_yes (k1 p1 : Int) (z1 : List Int) (A1 : Option Addr) (c1 : Nat) (page : Int) {l h : Nat} (w : World) (ho0 : Own w l h (.slice A1 z1.length c1) z1) (hl : z1.length ≤ 1048576) (hb : upB k1 p1 z1 page = true) (L : List Int) (hL : putL z1 page = L) :
    Calls Try.prog 81 #[.agg #[.int .i64 k1, .int .i64 p1, .slice A1 z1.length c1], .int .i64 page] w fun e w' => ∃ A c, e = .returned (.tuple #[.agg #[.int .i64 k1, .int .i64 p1, .slice A L.length c], .bool true]) ∧ Own w' w.heap.size w'.heap.size (.slice A L.length c) L ∧ Below w.heap.size w w' := by
  refine (iUsePage_any k1 p1 z1 A1 c1 page w ho0 hl).mono fun e w' h => ?_
  obtain ⟨h1, h2, h3⟩ := up_yes hb
  rw [h1, h2, h3, hb, hL] at h
  obtain ⟨A, c, rfl, ho, _, hB⟩ := h
  exact ⟨A, c, rfl, ho, hB⟩
theorem iOs_no (k1 p1 : Int) (us : List Int) (A1 : Option Addr) (c1 : Nat) (y : List Int) (A2 : Option Addr) (c2 : Nat) (z : List Int) (A3 : Option Addr) (c3 : Nat) {l1 h1 l2 h2 l3 h3 : Nat} (w : World) (r10 : Rd w l1 h1 A1 us) (r20 : Rd w l2 h2 A2 y) (r30 : Rd w l3 h3 A3 z) (hl1 : us.length ≤ 1048576) (hl2 : y.length ≤ 1048576) (hl3 : z.length ≤ 1048576) (hb : osB k1 p1 us y z = false) :
    Calls Try.prog 34 #[.agg #[.int .i64 k1, .int .i64 p1, .slice A1 us.length c1], .agg #[.slice A2 y.length c2, .slice A3 z.length c3]] w fun e w' => ∃ A c, e = .returned (.tuple #[.slice A 0 c, .bool false]) ∧ Below w.heap.size w w' := by
  refine (iOpenSecret_any k1 p1 us A1 c1 y A2 c2 z A3 c3 w r10 r20 r30 hl1 hl2 hl3).mono fun e w' h => ?_
  rw [osL_no hb, hb] at h
  obtain ⟨A, c, rfl, _, _, hB⟩ := h
  exact ⟨A, c, rfl, hB⟩
theorem iOs_yes (k1 p1 : Int) (us : List Int) (A1 : Option Addr) (c1 : Nat) (y : List Int) (A2 : Option Addr) (c2 : Nat) (z : List Int) (A3 : Option Addr) (c3 : Nat) {l1 h1 l2 h2 l3 h3 : Nat} (w : World) (r10 : Rd w l1 h1 A1 us) (r20 : Rd w l2 h2 A2 y) (r30 : Rd w l3 h3 A3 z) (hl1 : us.length ≤ 1048576) (hl2 : y.length ≤ 1048576) (hl3 : z.length ≤ 1048576) (hb : osB k1 p1 us y z = true) (S : List Int) (hS : shL z (numsL k1 y) (-1) = S) :
    Calls Try.prog 34 #[.agg #[.int .i64 k1, .int .i64 p1, .slice A1 us.length c1], .agg #[.slice A2 y.length c2, .slice A3 z.length c3]] w fun e w' => ∃ A c, e = .returned (.tuple #[.slice A S.length c, .bool true]) ∧ Own w' w.heap.size w'.heap.size (.slice A S.length c) S ∧ S.length ≤ 1048576 ∧ Below w.heap.size w w' := by
  refine (iOpenSecret_any k1 p1 us A1 c1 y A2 c2 z A3 c3 w r10 r20 r30 hl1 hl2 hl3).mono fun e w' h => ?_
  rw [osL_yes hb, hb, hS] at h
  exact h
theorem l1Put_L (zs : List Int) (A : Option Addr) (c : Nat) (n : Int) {l h : Nat} (w : World) (hr0 : Rd w l h A zs) (hl : zs.length ≤ 1048576) (hcap : zs.length ≤ c) (hc2 : c ≤ 9223372036854775807) (hA : (A = none ∧ c = 0) ∨ ∃ b off, A = some ⟨b, off, none⟩) (L : List Int) (hL : putL zs n = L) :
    Calls Try.prog 79 #[.slice A zs.length c, .int .i64 n] w fun e w' => ∃ A' c' l' h', e = .returned (.slice A' L.length c') ∧ Rd w' l' h' A' L ∧ ((l' = l ∧ h' = h) ∨ (l' = w.heap.size ∧ h' = w'.heap.size)) ∧ L.length ≤ c' ∧ c' ≤ 9223372036854775807 ∧ (∃ b off, A' = some ⟨b, off, none⟩) ∧ Below w.heap.size w w' := by
  subst hL
  have hpos : 0 < (putL zs n).length := List.length_pos_of_mem (putL_mem.2 (.inr rfl))
  refine (l1Put_any zs A c n w hr0 hl hcap hc2 hA).mono fun e w' h => ?_
  obtain ⟨A', c', l', h', he, q, hor, a1, a2, hb⟩ := h
  obtain ⟨b, off, hA', _⟩ := q hpos
  rcases hor with hor | hor
  · exact ⟨A', c', l', h', he, q, .inl hor, a1, a2, ⟨b, off, hA'⟩, hb⟩
  · exact ⟨A', c', l', w'.heap.size, he, q.hi, .inr ⟨hor, rfl⟩, a1, a2, ⟨b, off, hA'⟩, hb⟩

set_option maxHeartbeats 4000000 in
theorem iReceiveSecret_any (k1 p1 : Int) (us : List Int) (A1 : Option Addr) (c1 : Nat) (y : List Int) (A2 : Option Addr) (c2 : Nat) (z : List Int) (A3 : Option Addr) (c3 : Nat) {l1 h1 l2 h2 l3 h3 : Nat} (w : World) (r10 : Rd w l1 h1 A1 us) (r20 : Rd w l2 h2 A2 y) (r30 : Rd w l3 h3 A3 z) (hl1 : us.length ≤ 1048576) (hl2 : y.length ≤ 1048576) (hl3 : z.length ≤ 1048576) :
    Calls Try.prog 32 #[.agg #[.int .i64 k1, .int .i64 p1, .slice A1 us.length c1], .agg #[.slice A2 y.length c2, .slice A3 z.length c3]] w (TwoOwn (rsK k1 p1 us y z) (rsG k1 p1 us y z) (rsL k1 p1 us y z) (rsS k1 p1 us y z) (rsB k1 p1 us y z) w) := by
  have r1 := r10.std
  have r2 := r20.std
  have r3 := r30.std
  clear r10 r20 r30
  have hB : Below w.heap.size w (((w.alloc (.cells #[.int .i64 k1, .int .i64 p1, .slice A1 us.length c1] 52)).alloc (.cells #[.slice A2 y.length c2, .slice A3 z.length c3] 56)).alloc (.cells #[.int .i64 0, .int .i64 0, .slice none 0 0] 52)) := (((Below.refl _ _).alloc (Nat.le_refl _) _).alloc (by simp) _).alloc (by simp; omega) _
  have bK : Bk (((w.alloc (.cells #[.int .i64 k1, .int .i64 p1, .slice A1 us.length c1] 52)).alloc (.cells #[.slice A2 y.length c2, .slice A3 z.length c3] 56)).alloc (.cells #[.int .i64 0, .int .i64 0, .slice none 0 0] 52)) w.heap.size 52 #[.int .i64 k1, .int .i64 p1, .slice A1 us.length c1] := ((Bk.new w _ _).alloc _).alloc _
  have bX : Bk (((w.alloc (.cells #[.int .i64 k1, .int .i64 p1, .slice A1 us.length c1] 52)).alloc (.cells #[.slice A2 y.length c2, .slice A3 z.length c3] 56)).alloc (.cells #[.int .i64 0, .int .i64 0, .slice none 0 0] 52)) (w.heap.size + 1) 56 #[.slice A2 y.length c2, .slice A3 z.length c3] := (Bk.new2 w _ _ _).alloc _
  have bZ : Bk (((w.alloc (.cells #[.int .i64 k1, .int .i64 p1, .slice A1 us.length c1] 52)).alloc (.cells #[.slice A2 y.length c2, .slice A3 z.length c3] 56)).alloc (.cells #[.int .i64 0, .int .i64 0, .slice none 0 0] 52)) (w.heap.size + 2) 52 #[.int .i64 0, .int .i64 0, .slice none 0 0] := Bk.new3 w _ _ _ _
  have r1a : Rd (((w.alloc (.cells #[.int .i64 k1, .int .i64 p1, .slice A1 us.length c1] 52)).alloc (.cells #[.slice A2 y.length c2, .slice A3 z.length c3] 56)).alloc (.cells #[.int .i64 0, .int .i64 0, .slice none 0 0] 52)) 0 w.heap.size A1 us := ((r1.alloc _).alloc _).alloc _
  have r2a : Rd (((w.alloc (.cells #[.int .i64 k1, .int .i64 p1, .slice A1 us.length c1] 52)).alloc (.cells #[.slice A2 y.length c2, .slice A3 z.length c3] 56)).alloc (.cells #[.int .i64 0, .int .i64 0, .slice none 0 0] 52)) 0 w.heap.size A2 y := ((r2.alloc _).alloc _).alloc _
  have r3a : Rd (((w.alloc (.cells #[.int .i64 k1, .int .i64 p1, .slice A1 us.length c1] 52)).alloc (.cells #[.slice A2 y.length c2, .slice A3 z.length c3] 56)).alloc (.cells #[.int .i64 0, .int .i64 0, .slice none 0 0] 52)) 0 w.heap.size A3 z := ((r3.alloc _).alloc _).alloc _
  cases q : osB k1 p1 us y z with
  | false =>
    have hb : rsB k1 p1 us y z = false := by simp [rsB, q]
    obtain ⟨e1, e2, e3, e4⟩ := rs_no hb
    rw [e1, e2, e3, e4, hb]
    clear e1 e2 e3 e4 hb
    have y0 := bK.cell 0
    have y1 := bK.cell 1
    have y2 := bK.cell 2
    have x0 := bX.cell 0
    have x1 := bX.cell 1
    have t0 := bZ.cell 0
    have t1 := bZ.cell 1
    have t2 := bZ.cell 2
    have f0 := bZ.frozen 0
    have f1 := bZ.frozen 1
    have f2 := bZ.frozen 2
    simp at y0 y1 y2 x0 x1 t0 t1 t2
    go_enter Try.func32, Try.ntmps32
    go_wp2_with fail
    (with_reducible refine (iOs_no k1 p1 us A1 c1 y A2 c2 z A3 c3 _ r1a r2a r3a hl1 hl2 hl3 q).mono ?_)
    rintro e w1 ⟨A4, c4, rfl, hb1⟩
    have s1 : w.heap.size + 3 ≤ w1.heap.size := by have := hb1.size; simpa using this
    have bK1 := bK.st hb1
    have bX1 := bX.st hb1
    have bZ1 := bZ.st hb1
    have hB1 := hB.trans (hb1.mono (by simp; omega))
    have r11 := r1a.st hb1
    have r21 := r2a.st hb1
    have r31 := r3a.st hb1
    clear bK bX bZ hB hb1 r1 r2 r3 r1a r2a r3a
    clear y0 y1 y2 x0 x1 t0 t1 t2 f0 f1 f2
    have y0 := bK1.cell 0
    have y1 := bK1.cell 1
    have y2 := bK1.cell 2
    have x0 := bX1.cell 0
    have x1 := bX1.cell 1
    have t0 := bZ1.cell 0
    have t1 := bZ1.cell 1
    have t2 := bZ1.cell 2
    have f0 := bZ1.frozen 0
    have f1 := bZ1.frozen 1
    have f2 := bZ1.frozen 2
    simp at y0 y1 y2 x0 x1 t0 t1 t2
    go_wp2_with fail
    refine bodyPost_ret (v := .tuple #[.agg #[.int .i64 0, .int .i64 0, .slice none 0 0], .slice none 0 0, .bool false]) (by simp [results, Try.results32, go_sem, t0, t1, t2]) rfl ?_
    first | with_reducible exact TwoOwn.no rfl hB1 | exact TwoOwn.no rfl (set3 hB1 (by omega) _ _ _)
  | true =>
    obtain ⟨hkb, hnd, hyb, hy60, hu60⟩ := os_part q
    obtain ⟨S, hS⟩ : ∃ S, shL z (numsL k1 y) (-1) = S := ⟨_, rfl⟩
    have y0 := bK.cell 0
    have y1 := bK.cell 1
    have y2 := bK.cell 2
    have x0 := bX.cell 0
    have x1 := bX.cell 1
    have t0 := bZ.cell 0
    have t1 := bZ.cell 1
    have t2 := bZ.cell 2
    have f0 := bZ.frozen 0
    have f1 := bZ.frozen 1
    have f2 := bZ.frozen 2
    simp at y0 y1 y2 x0 x1 t0 t1 t2
    go_enter Try.func32, Try.ntmps32
    go_wp2_with fail
    (with_reducible refine (iOs_yes k1 p1 us A1 c1 y A2 c2 z A3 c3 _ r1a r2a r3a hl1 hl2 hl3 q S hS).mono ?_)
    rintro e w1 ⟨A4, c4, rfl, oS, nS, hb1⟩
    have oS1 := oS.mono (show w.heap.size + 3 ≤ _ by simp) (Nat.le_refl _)
    clear oS
    have s1 : w.heap.size + 3 ≤ w1.heap.size := by have := hb1.size; simpa using this
    have bK1 := bK.st hb1
    have bX1 := bX.st hb1
    have bZ1 := bZ.st hb1
    have hB1 := hB.trans (hb1.mono (by simp; omega))
    have r11 := r1a.st hb1
    have r21 := r2a.st hb1
    have r31 := r3a.st hb1
    clear bK bX bZ hB hb1 r1 r2 r3 r1a r2a r3a
    clear y0 y1 y2 x0 x1 t0 t1 t2 f0 f1 f2
    have y0 := bK1.cell 0
    have y1 := bK1.cell 1
    have y2 := bK1.cell 2
    have x0 := bX1.cell 0
    have x1 := bX1.cell 1
    have t0 := bZ1.cell 0
    have t1 := bZ1.cell 1
    have t2 := bZ1.cell 2
    have f0 := bZ1.frozen 0
    have f1 := bZ1.frozen 1
    have f2 := bZ1.frozen 2
    simp at y0 y1 y2 x0 x1 t0 t1 t2
    go_wp2_with fail
    (with_reducible refine (Clone_any us A1 c1 _ r11 (by omega)).mono ?_)
    rintro e w2 ⟨v2, rfl, o2, hb2⟩
    have s2 : w1.heap.size ≤ w2.heap.size := hb2.size
    obtain ⟨A5, c5, rfl, _, _⟩ := o2.rd
    have bK2 := bK1.st hb2
    have bX2 := bX1.st hb2
    have bZ2 := bZ1.st hb2
    have hB2 := hB1.trans (hb2.mono (by omega))
    have r22 := r21.st hb2
    have oS2 := oS1.st hb2
    clear bK1 bX1 bZ1 hB1 r21 oS1 hb2 r11 r31 y0 y1 y2 x0 x1 t0 t1 t2 f0 f1 f2
    have y0 := bK2.cell 0
    have y1 := bK2.cell 1
    have y2 := bK2.cell 2
    have x0 := bX2.cell 0
    have x1 := bX2.cell 1
    have q0 := bK2.frozen 0
    have q1 := bK2.frozen 1
    have q2 := bK2.frozen 2
    simp at y0 y1 y2 x0 x1
    have bK3 : Bk (w2.setCell ⟨w.heap.size, 2, none⟩ (.slice A5 us.length c5)) w.heap.size 52 #[.int .i64 k1, .int .i64 p1, .slice A5 us.length c5] := by simpa using bK2.set_ 2 (.slice A5 us.length c5)
    have bZ3 := bZ2.far (p := ⟨w.heap.size, 2, none⟩) (by dsimp only; omega) (.slice A5 us.length c5)
    have o3 := o2.setCell (p := ⟨w.heap.size, 2, none⟩) (.inl (by dsimp only; omega)) (.slice A5 us.length c5)
    have oS3 := oS2.setCell (p := ⟨w.heap.size, 2, none⟩) (.inl (by dsimp only; omega)) (.slice A5 us.length c5)
    have hB3 := hB2.setCell (p := ⟨w.heap.size, 2, none⟩) (Nat.le_refl _) (.slice A5 us.length c5)
    have r23 := r22.setCell (p := ⟨w.heap.size, 2, none⟩) (Nat.le_refl _) (.slice A5 us.length c5)
    have s3 : (w2.setCell ⟨w.heap.size, 2, none⟩ (.slice A5 us.length c5)).heap.size = w2.heap.size := size_setCell _ _ _
    have s3H := Lib.hid s3
    have hlK := bK2.lt
    have hlX := bX2.lt
    clear bK2 bX2 bZ2 o2 oS2 hB2 r22 s3
    go_wp2
    clear y0 y1 y2 x0 x1
    go_loopw [10, 11, 12, 29] (fun _ _ _ x wr => ∃ k : Nat, k ≤ y.length ∧ x = .int .i64 k ∧ (∀ j (h : j < y.length), j < k → hasB us y[j] = false) ∧ ∃ A c l h, Bk wr w.heap.size 52 #[.int .i64 k1, .int .i64 p1, .slice A (putM us (y.take k)).length c] ∧
        Own wr l h (.slice A (putM us (y.take k)).length c) (putM us (y.take k)) ∧ w1.heap.size ≤ l ∧ h ≤ wr.heap.size ∧ Own wr (w.heap.size + 3) w1.heap.size (.slice A4 S.length c4) S ∧ Rd wr 0 w.heap.size A2 y ∧
        Bk wr (w.heap.size + 2) 52 #[.int .i64 0, .int .i64 0, .slice none 0 0] ∧ Below w.heap.size w wr ∧ w1.heap.size ≤ wr.heap.size) (fun _ _ _ i _ => y.length - (intOf i).toNat)
    case atStart => exact ⟨0, Nat.zero_le _, rfl, fun j _ h => absurd h (by omega), A5, c5, w1.heap.size, w2.heap.size, bK3, o3, by omega, by rw [s3H.out]; omega, oS3, r23, bZ3, hB3, by rw [s3H.out]; omega⟩
    case round =>
      obtain ⟨k, hk, rfl, hall, A, c, l, h, bK4, o4, hl4, hh4, oS4, r24, bZ4, hB4, hs4⟩ := hrel
      have hml := putM_len us (y.take k)
      have htl : (y.take k).length ≤ 60 := by rw [List.length_take]; omega
      have hl6 : (putM us (y.take k)).length ≤ 1048575 := by omega
      have hallH := Lib.hid hall
      clear hall hml htl
      have y0 := bK4.cell 0
      have y1 := bK4.cell 1
      have y2 := bK4.cell 2
      simp at y0 y1 y2
      have hlK4 := bK4.lt
      have hlZ4 := bZ4.lt
      by_cases hlt : k < y.length
      · have hyk := hyb k hlt
        have hpm := hasB_putM (us := us) hnd hlt
        have hkb2 := putM_kb (y := y.take k) hkb (fun j hj => by rw [List.getElem_take]; exact hyb _ _)
        have hin : inB y[k] 0 (p1 - 1) = true := inB_t hyk
        obtain ⟨b2, off2, rfl, _, hb2l, hc2⟩ := r24 (by omega)
        have e0 := hc2 k hlt
        clear hc2
        cases hu : hasB us y[k] with
        | true =>
          have hup : upB k1 p1 (putM us (y.take k)) y[k] = false := by simp [upB, hpm, hu]
          have hb : rsB k1 p1 us y z = false := by simp [rsB, newB_at hlt hu]
          have hno := Lib.hid (rs_no hb)
          have hbH := Lib.hid hb
          clear hb hpm hkb2 hin hyb
          go_wp2_with fail
          (with_reducible refine (iUp_no k1 p1 (putM us (y.take k)) A c y[k] _ o4 (by omega) hup).mono ?_)
          rintro e w5 ⟨A6, c6, rfl, hb5⟩
          have s5 : wr.heap.size ≤ w5.heap.size := hb5.size
          have bZ5 := (bZ4.st hb5).alloc (.cells #[.int .i64 0, .int .i64 0, .slice A6 0 c6] 52)
          have ka := Bk.new w5 52 #[.int .i64 0, .int .i64 0, .slice A6 0 c6]
          have hB5 := Lib.hid ((hB4.trans (hb5.mono (by omega))).alloc (by omega) (.cells #[.int .i64 0, .int .i64 0, .slice A6 0 c6] 52))
          clear bK4 o4 oS4 r24 hB4 hb5 y0 y1 y2 e0
          have t0 := bZ5.cell 0
          have t1 := bZ5.cell 1
          have t2 := bZ5.cell 2
          have f0 := bZ5.frozen 0
          have f1 := bZ5.frozen 1
          have f2 := bZ5.frozen 2
          simp at t0 t1 t2
          clear bZ5 ka bZ4
          go_wp2_with fail
          refine bodyPost_ret (v := .tuple #[.agg #[.int .i64 0, .int .i64 0, .slice none 0 0], .slice none 0 0, .bool false]) (by simp [results, Try.results32, go_sem, t0, t1, t2]) rfl ?_
          rw [hno.out.1, hno.out.2.1, hno.out.2.2.1, hno.out.2.2.2, hbH.out]
          first | with_reducible exact TwoOwn.no rfl hB5.out | exact TwoOwn.no rfl (set3 hB5.out (by omega) _ _ _)
        | false =>
          have hup : upB k1 p1 (putM us (y.take k)) y[k] = true := by simp [upB, hpm, hu, hkb2, hin]
          obtain ⟨L, hL⟩ : ∃ L, putL (putM us (y.take k)) y[k] = L := ⟨_, rfl⟩
          have hUL := Lib.hid (show putM us (y.take (k + 1)) = L by rw [putM_succ us y k hlt, hL])
          have hLl := putL_len (putM us (y.take k)) y[k]
          rw [hL] at hLl
          have hLm : L.length ≤ 1048576 := by omega
          have hall2 := Lib.hid (show ∀ j (h : j < y.length), j < k + 1 → hasB us y[j] = false from fun j hj hjk => by
            by_cases e : j = k
            · subst e; exact hu
            · exact hallH.out j hj (by omega))
          clear hpm hkb2 hin hLl
          go_wp2_with fail
          (with_reducible refine (iUp_yes k1 p1 (putM us (y.take k)) A c y[k] _ o4 (by omega) hup L hL).mono ?_)
          rintro e w5 ⟨A6, c6, rfl, o5, hb5⟩
          have s5 : wr.heap.size ≤ w5.heap.size := hb5.size
          have bK5 := (bK4.st hb5).alloc (.cells #[.int .i64 k1, .int .i64 p1, .slice A6 L.length c6] 52)
          have kb := Bk.new w5 52 #[.int .i64 k1, .int .i64 p1, .slice A6 L.length c6]
          have kKc := bK5.put3 (.int .i64 k1) (.int .i64 p1) (.slice A6 L.length c6)
          have kZc := ((bZ4.st hb5).alloc (.cells #[.int .i64 k1, .int .i64 p1, .slice A6 L.length c6] 52)).far3 (g' := w.heap.size) (by omega) (.int .i64 k1) (.int .i64 p1) (.slice A6 L.length c6)
          have o5c := Own.st3 (g := w.heap.size) (o5.alloc (.cells #[.int .i64 k1, .int .i64 p1, .slice A6 L.length c6] 52)) (by omega) (.int .i64 k1) (.int .i64 p1) (.slice A6 L.length c6)
          have oSc := Own.st3 (g := w.heap.size) ((oS4.st hb5).alloc (.cells #[.int .i64 k1, .int .i64 p1, .slice A6 L.length c6] 52)) (by omega) (.int .i64 k1) (.int .i64 p1) (.slice A6 L.length c6)
          have r2c := Rd.st3 (g := w.heap.size) ((r24.st hb5).alloc (.cells #[.int .i64 k1, .int .i64 p1, .slice A6 L.length c6] 52)) (.inl (Nat.le_refl _)) (.int .i64 k1) (.int .i64 p1) (.slice A6 L.length c6)
          have hBc := Lib.hid (set3 ((hB4.trans (hb5.mono (by omega))).alloc (by omega) (.cells #[.int .i64 k1, .int .i64 p1, .slice A6 L.length c6] 52)) (Nat.le_refl w.heap.size) (.int .i64 k1) (.int .i64 p1) (.slice A6 L.length c6))
          have hszc := Lib.hid (show (((( w5.alloc (.cells #[.int .i64 k1, .int .i64 p1, .slice A6 L.length c6] 52)).setCell ⟨w.heap.size, 0, none⟩ (.int .i64 k1)).setCell ⟨w.heap.size, 1, none⟩ (.int .i64 p1)).setCell ⟨w.heap.size, 2, none⟩ (.slice A6 L.length c6)).heap.size = w5.heap.size + 1 by simp)
          clear y0 y1 y2 e0
          have y0 := bK5.cell 0
          have y1 := bK5.cell 1
          have y2 := bK5.cell 2
          have v0 := kb.cell 0
          have v1 := kb.cell 1
          have v2 := kb.cell 2
          have n0 := bK5.frozen 0
          have n1 := bK5.frozen 1
          have n2 := bK5.frozen 2
          simp at y0 y1 y2 v0 v1 v2
          have kKcH := Lib.hid kKc
          have kZcH := Lib.hid kZc
          have o5cH := Lib.hid o5c
          have oScH := Lib.hid oSc
          have r2cH := Lib.hid r2c
          clear bK5 kb bK4 bZ4 o4 oS4 r24 hB4 hb5 kKc kZc o5c oSc r2c o5
          go_wp2
          go_roundw
          case rel => exact ⟨k + 1, by omega, by go_num, hall2.out, A6, c6, wr.heap.size, w5.heap.size, by rw [hUL.out]; exact kKcH.out, by rw [hUL.out]; exact o5cH.out, by omega, by rw [hszc.out]; omega, oScH.out, r2cH.out, kZcH.out, hBc.out, by rw [hszc.out]; omega⟩
          case measure => simp [intOf]; omega
      · obtain rfl : k = y.length := by omega
        have hb : rsB k1 p1 us y z = true := by
          rw [rsB, q, Bool.true_and]
          exact newB_iff.2 fun j hj => hallH.out j hj hj
        have hys := Lib.hid (rs_yes hb)
        have hbH := Lib.hid hb
        have htk := Lib.hid (show putM us (y.take y.length) = putM us y by rw [List.take_length])
        have r4x := Lib.hid (Own.st3 (g := w.heap.size + 2) o4 (by omega) (.int .i64 k1) (.int .i64 p1) (.slice A (putM us (y.take y.length)).length c))
        have oSx := Lib.hid (Own.st3 (g := w.heap.size + 2) oS4 (by omega) (.int .i64 k1) (.int .i64 p1) (.slice A (putM us (y.take y.length)).length c))
        have hBx := Lib.hid (set3 hB4 (show w.heap.size ≤ w.heap.size + 2 by omega) (.int .i64 k1) (.int .i64 p1) (.slice A (putM us (y.take y.length)).length c))
        have t0 := bZ4.cell 0
        have t1 := bZ4.cell 1
        have t2 := bZ4.cell 2
        have f0 := bZ4.frozen 0
        have f1 := bZ4.frozen 1
        have f2 := bZ4.frozen 2
        simp at t0 t1 t2
        clear hb bK4 bZ4 o4 oS4 r24 hB4 hyb
        go_wp2_with fail
        refine bodyPost_ret (v := .tuple #[.agg #[.int .i64 k1, .int .i64 p1, .slice A (putM us (y.take y.length)).length c], .slice A4 S.length c4, .bool true]) (by simp [results, Try.results32, go_sem, t0, t1, t2]) rfl ?_
        rw [hys.out.1, hys.out.2.1, hys.out.2.2.1, hys.out.2.2.2, hbH.out, hS, ← htk.out]
        exact ⟨A, c, A4, c4, l, h, w.heap.size + 3, w1.heap.size, rfl, r4x.out, oSx.out, ⟨by omega, by rw [size_st3]; omega, by omega, by rw [size_st3]; omega, .inr (by omega)⟩, by omega, nS, hBx.out⟩

set_option maxHeartbeats 4000000 in
theorem sReceiveSecret_any (k1 p1 : Int) (us : List Int) (A1 : Option Addr) (c1 : Nat) (y : List Int) (A2 : Option Addr) (c2 : Nat) (z : List Int) (A3 : Option Addr) (c3 : Nat) {l1 h1 l2 h2 l3 h3 : Nat} (w : World) (r10 : Rd w l1 h1 A1 us) (r20 : Rd w l2 h2 A2 y) (r30 : Rd w l3 h3 A3 z) (hl1 : us.length ≤ 1048576) (hl2 : y.length ≤ 1048576) (hl3 : z.length ≤ 1048576) (hcap : y.length ≤ c2) (hcap3 : z.length ≤ c3) :
    Calls Try.prog 33 #[.agg #[.int .i64 k1, .int .i64 p1, .slice A1 us.length c1], .agg #[.slice A2 y.length c2, .slice A3 z.length c3]] w (TwoRd (rsK k1 p1 us y z) (rsG k1 p1 us y z) (rsL k1 p1 us y z) (rsS k1 p1 us y z) (rsB k1 p1 us y z) w) := by
  have r1 := r10.std
  have r2 := r20.std
  have r3 := r30.std
  clear r10 r20 r30
  have hB : Below w.heap.size w (((w.alloc (.cells #[.int .i64 k1, .int .i64 p1, .slice A1 us.length c1] 52)).alloc (.cells #[.slice A2 y.length c2, .slice A3 z.length c3] 56)).alloc (.cells #[.int .i64 0, .int .i64 0, .slice none 0 0] 52)) := (((Below.refl _ _).alloc (Nat.le_refl _) _).alloc (by simp) _).alloc (by simp; omega) _
  have bK : Bk (((w.alloc (.cells #[.int .i64 k1, .int .i64 p1, .slice A1 us.length c1] 52)).alloc (.cells #[.slice A2 y.length c2, .slice A3 z.length c3] 56)).alloc (.cells #[.int .i64 0, .int .i64 0, .slice none 0 0] 52)) w.heap.size 52 #[.int .i64 k1, .int .i64 p1, .slice A1 us.length c1] := ((Bk.new w _ _).alloc _).alloc _
  have bX : Bk (((w.alloc (.cells #[.int .i64 k1, .int .i64 p1, .slice A1 us.length c1] 52)).alloc (.cells #[.slice A2 y.length c2, .slice A3 z.length c3] 56)).alloc (.cells #[.int .i64 0, .int .i64 0, .slice none 0 0] 52)) (w.heap.size + 1) 56 #[.slice A2 y.length c2, .slice A3 z.length c3] := (Bk.new2 w _ _ _).alloc _
  have bZ : Bk (((w.alloc (.cells #[.int .i64 k1, .int .i64 p1, .slice A1 us.length c1] 52)).alloc (.cells #[.slice A2 y.length c2, .slice A3 z.length c3] 56)).alloc (.cells #[.int .i64 0, .int .i64 0, .slice none 0 0] 52)) (w.heap.size + 2) 52 #[.int .i64 0, .int .i64 0, .slice none 0 0] := Bk.new3 w _ _ _ _
  have r1a : Rd (((w.alloc (.cells #[.int .i64 k1, .int .i64 p1, .slice A1 us.length c1] 52)).alloc (.cells #[.slice A2 y.length c2, .slice A3 z.length c3] 56)).alloc (.cells #[.int .i64 0, .int .i64 0, .slice none 0 0] 52)) 0 w.heap.size A1 us := ((r1.alloc _).alloc _).alloc _
  have r2a : Rd (((w.alloc (.cells #[.int .i64 k1, .int .i64 p1, .slice A1 us.length c1] 52)).alloc (.cells #[.slice A2 y.length c2, .slice A3 z.length c3] 56)).alloc (.cells #[.int .i64 0, .int .i64 0, .slice none 0 0] 52)) 0 w.heap.size A2 y := ((r2.alloc _).alloc _).alloc _
  have r3a : Rd (((w.alloc (.cells #[.int .i64 k1, .int .i64 p1, .slice A1 us.length c1] 52)).alloc (.cells #[.slice A2 y.length c2, .slice A3 z.length c3] 56)).alloc (.cells #[.int .i64 0, .int .i64 0, .slice none 0 0] 52)) 0 w.heap.size A3 z := ((r3.alloc _).alloc _).alloc _
  cases q : osB k1 p1 us y z with
  | false =>
    have hb : rsB k1 p1 us y z = false := by simp [rsB, q]
    obtain ⟨e1, e2, e3, e4⟩ := rs_no hb
    rw [e1, e2, e3, e4, hb]
    clear e1 e2 e3 e4 hb
    have y0 := bK.cell 0
    have y1 := bK.cell 1
    have y2 := bK.cell 2
    have x0 := bX.cell 0
    have x1 := bX.cell 1
    have t0 := bZ.cell 0
    have t1 := bZ.cell 1
    have t2 := bZ.cell 2
    have f0 := bZ.frozen 0
    have f1 := bZ.frozen 1
    have f2 := bZ.frozen 2
    simp at y0 y1 y2 x0 x1 t0 t1 t2
    go_enter Try.func33, Try.ntmps33
    go_wp2_with fail
    (with_reducible refine (scAsked_v k1 p1 us A1 c1 y A2 c2 z A3 c3 _ r1a r2a r3a hl1 hl2 hl3 hcap _ q).mono ?_)
    rintro e w1 ⟨rfl, hb1⟩
    have s1 : w.heap.size + 3 ≤ w1.heap.size := by have := hb1.size; simpa using this
    have bK1 := bK.st hb1
    have bX1 := bX.st hb1
    have bZ1 := bZ.st hb1
    have hB1 := hB.trans (hb1.mono (by simp; omega))
    have r11 := r1a.st hb1
    have r21 := r2a.st hb1
    have r31 := r3a.st hb1
    clear bK bX bZ hB hb1 r1 r2 r3 r1a r2a r3a
    clear y0 y1 y2 x0 x1 t0 t1 t2 f0 f1 f2
    have y0 := bK1.cell 0
    have y1 := bK1.cell 1
    have y2 := bK1.cell 2
    have x0 := bX1.cell 0
    have x1 := bX1.cell 1
    have t0 := bZ1.cell 0
    have t1 := bZ1.cell 1
    have t2 := bZ1.cell 2
    have f0 := bZ1.frozen 0
    have f1 := bZ1.frozen 1
    have f2 := bZ1.frozen 2
    simp at y0 y1 y2 x0 x1 t0 t1 t2
    go_wp2_with fail
    refine bodyPost_ret (v := .tuple #[.agg #[.int .i64 0, .int .i64 0, .slice none 0 0], .slice none 0 0, .bool false]) (by simp [results, Try.results33, go_sem, t0, t1, t2]) rfl ?_
    first | with_reducible exact TwoRd.no rfl hB1 | exact TwoRd.no rfl (set3 hB1 (by omega) _ _ _)
  | true =>
    obtain ⟨hkb, hnd, hyb, hy60, hu60⟩ := os_part q
    have q' := q
    simp only [osB, Bool.and_eq_true] at q'
    obtain ⟨f1, f2, f3, f4, f5⟩ := sc_facts q'.2.1
    have fk := (kb_pages q'.1).1
    have hlen : (shL z (numsL k1 y) (-1)).length ≤ 1048576 := by rw [shL_len _ _ _ (by rw [numsL_len]; omega)]; omega
    have hlenH := Lib.hid hlen
    have f2H := Lib.hid f2
    have f5H := Lib.hid f5
    have hybH := Lib.hid hyb
    clear q' hlen f2 f5 hyb
    have y0 := bK.cell 0
    have y1 := bK.cell 1
    have y2 := bK.cell 2
    have x0 := bX.cell 0
    have x1 := bX.cell 1
    have t0 := bZ.cell 0
    have t1 := bZ.cell 1
    have t2 := bZ.cell 2
    have f0 := bZ.frozen 0
    have f1 := bZ.frozen 1
    have f2 := bZ.frozen 2
    simp at y0 y1 y2 x0 x1 t0 t1 t2
    go_enter Try.func33, Try.ntmps33
    go_wp2_with fail
    (with_reducible refine (scAsked_v k1 p1 us A1 c1 y A2 c2 z A3 c3 _ r1a r2a r3a hl1 hl2 hl3 hcap _ q).mono ?_)
    rintro e w1 ⟨rfl, hb1⟩
    have s1 : w.heap.size + 3 ≤ w1.heap.size := by have := hb1.size; simpa using this
    have bK1 := bK.st hb1
    have bX1 := bX.st hb1
    have bZ1 := bZ.st hb1
    have hB1 := hB.trans (hb1.mono (by simp; omega))
    have r11 := r1a.st hb1
    have r21 := r2a.st hb1
    have r31 := r3a.st hb1
    clear bK bX bZ hB hb1 r1 r2 r3 r1a r2a r3a
    clear y0 y1 y2 x0 x1 t0 t1 t2 f0 f1 f2
    have y0 := bK1.cell 0
    have y1 := bK1.cell 1
    have y2 := bK1.cell 2
    have x0 := bX1.cell 0
    have x1 := bX1.cell 1
    have t0 := bZ1.cell 0
    have t1 := bZ1.cell 1
    have t2 := bZ1.cell 2
    have f0 := bZ1.frozen 0
    have f1 := bZ1.frozen 1
    have f2 := bZ1.frozen 2
    simp at y0 y1 y2 x0 x1 t0 t1 t2
    have hlw1 : w.heap.size < w1.heap.size := by omega
    go_wp2_with fail
    go_region_held3 (fun w' => w'.cell? ⟨w.heap.size, 0, none⟩ = some (.int .i64 k1) ∧ w'.cell? ⟨w.heap.size, 1, none⟩ = some (.int .i64 p1) ∧ w'.cell? ⟨w.heap.size, 2, none⟩ = some (.slice A1 us.length c1))
      (((try go_split_ands); (try dsimp only); (repeat' apply And.intro) <;> (first | with_reducible assumption | with_reducible exact cell_far3 (by omega) (by with_reducible assumption) | with_reducible exact cell_far2 (by omega) (by with_reducible assumption) | ((with_reducible refine (World.cell?_alloc_lt _ _ _ ?_).trans ?_) <;> first | with_reducible assumption | omega | (simp <;> omega)) | ((with_reducible refine (hc2 _ _ ?_).trans ?_) <;> first | with_reducible assumption | omega | (simp <;> omega)) | go_keep)))
      (first
        | (go_at_call 83; ((with_reducible refine (l1Own_any us A1 c1 _ r11.drew (by omega)).mono ?_); rintro e w2 ⟨v2, rfl, o2, hb2⟩; (obtain ⟨A5, c5, rfl, _, _⟩ := o2.rd); (have hc2 := (bcell hb2).1); (have s2 : w1.heap.size ≤ w2.heap.size := hb2.size); (have s2' : w.heap.size < w2.heap.size := by omega); (have j0 := (hc2 _ _ (by simp; omega)).trans y0); (have j1 := (hc2 _ _ (by simp; omega)).trans y1); (have j2 := (hc2 _ _ (by simp; omega)).trans y2)))
        | (go_at_call 83; ((with_reducible refine (l1Own_any us A1 c1 _ (r11.alloc _).drew (by omega)).mono ?_); rintro e w2 ⟨v2, rfl, o2, hb2⟩; (obtain ⟨A5, c5, rfl, _, _⟩ := o2.rd); (have hc2 := (bcell hb2).1); (have s2 : w1.heap.size + 1 ≤ w2.heap.size := by have := hb2.size; simpa using this); (have s2' : w.heap.size < w2.heap.size := by omega); (have j0 := (hc2 _ _ (by simp; omega)).trans ((World.cell?_alloc_lt w1 _ _ (by simp; omega)).trans y0)); (have j1 := (hc2 _ _ (by simp; omega)).trans ((World.cell?_alloc_lt w1 _ _ (by simp; omega)).trans y1)); (have j2 := (hc2 _ _ (by simp; omega)).trans ((World.cell?_alloc_lt w1 _ _ (by simp; omega)).trans y2)); (have kG := ((Bk.new w1 52 #[.int .i64 0, .int .i64 0, .slice none 0 0]).drew).st hb2); (have g0 := kG.cell 0); (have g1 := kG.cell 1); (have g2 := kG.cell 2); (have m0 := kG.frozen 0); (have m1 := kG.frozen 1); (have m2 := kG.frozen 2); (simp at g0 g1 g2); (have ne0 : ¬ w.heap.size = w1.heap.size := by omega))))
    · skip
      have o2' : Own w2 w1.heap.size w2.heap.size (.slice A5 us.length c5) us := o2
      obtain ⟨W, hW⟩ : ∃ W, W = w2.alloc (.cells #[.int .i64 k1, .int .i64 p1, .slice A5 us.length c5] 52) := ⟨_, rfl⟩
      have sW : W.heap.size = w2.heap.size + 1 := by rw [hW]; simp
      have hcap5 := o2'.len.2
      have hcM5 := o2'.capM
      have hA5 := o2'.addr_
      have rd5 : Rd W w1.heap.size w2.heap.size A5 us := by rw [hW]; exact (o2'.rd').alloc _
      have bK5 : Bk W w.heap.size 52 #[.int .i64 k1, .int .i64 p1, .slice A1 us.length c1] := by rw [hW]; exact ((bK1.drew).st hb2).alloc _
      have bX5 : Bk W (w.heap.size + 1) 56 #[.slice A2 y.length c2, .slice A3 z.length c3] := by rw [hW]; exact ((bX1.drew).st hb2).alloc _
      have bZ5 : Bk W (w.heap.size + 2) 52 #[.int .i64 0, .int .i64 0, .slice none 0 0] := by rw [hW]; exact ((bZ1.drew).st hb2).alloc _
      have bG5 : Bk W w2.heap.size 52 #[.int .i64 k1, .int .i64 p1, .slice A5 us.length c5] := by rw [hW]; exact Bk.new w2 _ _
      have r15 : Rd W 0 w.heap.size A1 us := by rw [hW]; exact ((r11.drew).st hb2).alloc _
      have r25 : Rd W 0 w.heap.size A2 y := by rw [hW]; exact ((r21.drew).st hb2).alloc _
      have r35 : Rd W 0 w.heap.size A3 z := by rw [hW]; exact ((r31.drew).st hb2).alloc _
      have hB5 : Below w.heap.size w W := by rw [hW]; exact ((hB1.drew).trans (hb2.mono (by simp; omega))).alloc (by omega) _
      have hst0 : w2.heap.size ≤ w2.heap.size ∨ w2.heap.size < w1.heap.size := .inl (Nat.le_refl _)
      clear j0 j1 j2 hb2 hc2 o2 o2' bK1 bX1 bZ1 hB1 r11 r21 r31 y0 y1 y2 x0 x1 t0 t1 t2 f0 f1 f2
      have hlX5 := bX5.lt
      have x0 := bX5.cell 0
      have x1 := bX5.cell 1
      simp at x0 x1
      rw [← hW]
      clear hW
      go_wp2_with fail
      clear x0 x1
      go_loopw [9, 26] (fun _ x wr => ∃ k : Nat, k ≤ y.length ∧ x = .int .i64 k ∧ (∀ j (h : j < y.length), j < k → hasB us y[j] = false) ∧ ∃ A c l h, Bk wr w2.heap.size 52 #[.int .i64 k1, .int .i64 p1, .slice A (putM us (y.take k)).length c] ∧
          Rd wr l h A (putM us (y.take k)) ∧ (h ≤ w2.heap.size ∨ w2.heap.size < l) ∧ h ≤ wr.heap.size ∧ w.heap.size + 3 ≤ l ∧ (putM us (y.take k)).length ≤ c ∧ c ≤ 9223372036854775807 ∧ ((A = none ∧ c = 0) ∨ ∃ b off, A = some ⟨b, off, none⟩) ∧
          Rd wr 0 w.heap.size A1 us ∧ Rd wr 0 w.heap.size A2 y ∧ Rd wr 0 w.heap.size A3 z ∧ Bk wr w.heap.size 52 #[.int .i64 k1, .int .i64 p1, .slice A1 us.length c1] ∧ Bk wr (w.heap.size + 1) 56 #[.slice A2 y.length c2, .slice A3 z.length c3] ∧ Bk wr (w.heap.size + 2) 52 #[.int .i64 0, .int .i64 0, .slice none 0 0] ∧ Below w.heap.size w wr ∧ w2.heap.size + 1 ≤ wr.heap.size) (fun _ i _ => y.length - (intOf i).toNat)
      case atStart => exact ⟨0, Nat.zero_le _, rfl, fun j _ h => absurd h (by omega), A5, c5, w1.heap.size, w2.heap.size, bG5, rd5, hst0, by omega, by omega, hcap5, hcM5, hA5, r15, r25, r35, bK5, bX5, bZ5, hB5, by omega⟩
      case round =>
        clear bG5 rd5 hst0 hcap5 hcM5 hA5 r15 r25 r35 bK5 bX5 bZ5 hB5
        obtain ⟨k, hk, rfl, hall, A, c, l, h, bG4, r4, hg4, hh4, hl4, hcap4, hcM4, hA4, r14, r24, r34, bK4, bX4, bZ4, hB4, hs4⟩ := hrel
        have hml := putM_len us (y.take k)
        have htl : (y.take k).length ≤ 60 := by rw [List.length_take]; omega
        have hl6 : (putM us (y.take k)).length ≤ 1048575 := by omega
        have hallH := Lib.hid hall
        clear hall hml htl
        have hlG4 := bG4.lt
        have hlK4 := bK4.lt
        have hlX4 := bX4.lt
        have hlZ4 := bZ4.lt
        have neG : ¬ w.heap.size = w2.heap.size := by omega
        have v0 := bG4.cell 0
        have v1 := bG4.cell 1
        have v2 := bG4.cell 2
        have y0 := bK4.cell 0
        have y1 := bK4.cell 1
        have y2 := bK4.cell 2
        have n0 := bG4.frozen 0
        have n1 := bG4.frozen 1
        have n2 := bG4.frozen 2
        simp at v0 v1 v2 y0 y1 y2
        by_cases hlt : k < y.length
        · obtain ⟨b2, off2, rfl, _, hb2l, hc2⟩ := r24 (by omega)
          have e0 := hc2 k hlt
          clear hc2
          cases hu : hasB us y[k] with
          | true =>
            have hb : rsB k1 p1 us y z = false := by simp [rsB, newB_at hlt hu]
            have hno := Lib.hid (rs_no hb)
            have hbH := Lib.hid hb
            clear hb
            have t0 := bZ4.cell 0
            have t1 := bZ4.cell 1
            have t2 := bZ4.cell 2
            have f0 := bZ4.frozen 0
            have f1 := bZ4.frozen 1
            have f2 := bZ4.frozen 2
            simp at t0 t1 t2
            go_wp2_with (first | (go_at_call 84; (with_reducible refine (l1Has_v us A1 c1 y[k] _ r14 (by omega) _ hu).mono ?_); rintro e w' ⟨rfl, rfl⟩) | fail)
            refine bodyPost_ret (v := .tuple #[.agg #[.int .i64 0, .int .i64 0, .slice none 0 0], .slice none 0 0, .bool false]) (by simp [results, Try.results33, go_sem, t0, t1, t2]) rfl ?_
            rw [hno.out.1, hno.out.2.1, hno.out.2.2.1, hno.out.2.2.2, hbH.out]
            first | with_reducible exact TwoRd.no rfl hB4 | exact TwoRd.no rfl (set3 hB4 (by omega) _ _ _)
          | false =>
            obtain ⟨L, hL⟩ : ∃ L, putL (putM us (y.take k)) y[k] = L := ⟨_, rfl⟩
            have hUL := Lib.hid (show putM us (y.take (k + 1)) = L by rw [putM_succ us y k hlt, hL])
            have hLl := putL_len (putM us (y.take k)) y[k]
            rw [hL] at hLl
            have hLm : L.length ≤ 1048576 := by omega
            have hall2 := Lib.hid (show ∀ j (h : j < y.length), j < k + 1 → hasB us y[j] = false from fun j hj hjk => by
              by_cases e : j = k
              · subst e; exact hu
              · exact hallH.out j hj (by omega))
            clear hLl
            go_wp2_with (first | (go_at_call 84; (with_reducible refine (l1Has_v us A1 c1 y[k] _ r14 (by omega) _ hu).mono ?_); rintro e w' ⟨rfl, rfl⟩) | fail)
            (with_reducible refine (l1Put_L (putM us (y.take k)) A c y[k] _ r4 (by omega) hcap4 hcM4 hA4 L hL).mono ?_)
            rintro e w6 ⟨A6, c6, l6, h6, rfl, r6, hor6, lc6, mc6, ha6, hb6⟩
            have s6 : wr.heap.size ≤ w6.heap.size := hb6.size
            have hg6 : h6 ≤ w2.heap.size ∨ w2.heap.size < l6 := by rcases hor6 with ⟨a, b⟩ | ⟨a, b⟩ <;> omega
            have hh6 : h6 ≤ w6.heap.size := by rcases hor6 with ⟨a, b⟩ | ⟨a, b⟩ <;> omega
            have hl6' : w.heap.size + 3 ≤ l6 := by rcases hor6 with ⟨a, b⟩ | ⟨a, b⟩ <;> omega
            have bG6 := bG4.st hb6
            have kG : Bk (w6.setCell ⟨w2.heap.size, 2, none⟩ (.slice A6 L.length c6)) w2.heap.size 52 #[.int .i64 k1, .int .i64 p1, .slice A6 L.length c6] := by simpa using bG6.set_ 2 (.slice A6 L.length c6)
            have kK := (bK4.st hb6).far (p := ⟨w2.heap.size, 2, none⟩) (by dsimp only; omega) (.slice A6 L.length c6)
            have kX := (bX4.st hb6).far (p := ⟨w2.heap.size, 2, none⟩) (by dsimp only; omega) (.slice A6 L.length c6)
            have kZ := (bZ4.st hb6).far (p := ⟨w2.heap.size, 2, none⟩) (by dsimp only; omega) (.slice A6 L.length c6)
            have q1 := (r14.st hb6).setCell (p := ⟨w2.heap.size, 2, none⟩) (by dsimp only; omega) (.slice A6 L.length c6)
            have q2 := (r24.st hb6).setCell (p := ⟨w2.heap.size, 2, none⟩) (by dsimp only; omega) (.slice A6 L.length c6)
            have q3 := (r34.st hb6).setCell (p := ⟨w2.heap.size, 2, none⟩) (by dsimp only; omega) (.slice A6 L.length c6)
            have q4 := Rd.store (p := ⟨w2.heap.size, 2, none⟩) r6 (by dsimp only; omega) (.slice A6 L.length c6)
            have hBc := Lib.hid ((hB4.trans (hb6.mono (by omega))).setCell (p := ⟨w2.heap.size, 2, none⟩) (by dsimp only; omega) (.slice A6 L.length c6))
            have hsz := Lib.hid (size_setCell w6 ⟨w2.heap.size, 2, none⟩ (.slice A6 L.length c6))
            clear v0 v1 v2 n0 n1 n2 y0 y1 y2 e0
            have v0 := bG6.cell 0
            have v1 := bG6.cell 1
            have v2 := bG6.cell 2
            have n0 := bG6.frozen 0
            have n1 := bG6.frozen 1
            have n2 := bG6.frozen 2
            simp at v0 v1 v2
            have kGH := Lib.hid kG
            have kKH := Lib.hid kK
            have kXH := Lib.hid kX
            have kZH := Lib.hid kZ
            have q1H := Lib.hid q1
            have q2H := Lib.hid q2
            have q3H := Lib.hid q3
            have q4H := Lib.hid q4
            clear bG6 kG kK kX kZ q1 q2 q3 q4 r4 r14 r24 r34 bG4 bK4 bX4 bZ4 hB4 hb6 r6 hor6
            go_wp2
            go_roundw
            case rel => exact ⟨k + 1, by omega, by go_num, hall2.out, A6, c6, l6, h6, by rw [hUL.out]; exact kGH.out, by rw [hUL.out]; exact q4H.out, hg6, by rw [hsz.out]; omega, hl6', by rw [hUL.out]; exact lc6, mc6, .inr ha6, q1H.out, q2H.out, q3H.out, kKH.out, kXH.out, kZH.out, hBc.out, by rw [hsz.out]; omega⟩
            case measure => simp [intOf]; omega
        · obtain rfl : k = y.length := by omega
          have hb : rsB k1 p1 us y z = true := by
            rw [rsB, q, Bool.true_and]
            exact newB_iff.2 fun j hj => hallH.out j hj hj
          have hys := Lib.hid (rs_yes hb)
          have hbH := Lib.hid hb
          have htk := Lib.hid (show putM us (y.take y.length) = putM us y by rw [List.take_length])
          obtain ⟨M, hM⟩ : ∃ M, putM us (y.take y.length) = M := ⟨_, rfl⟩
          rw [hM] at v2 r4 bG4 hcap4 hl6
          have hMH := Lib.hid hM
          have ne1 : ¬ w2.heap.size = w.heap.size + 2 := by omega
          clear hb hM
          have x0 := bX4.cell 0
          have x1 := bX4.cell 1
          have t0 := bZ4.cell 0
          have t1 := bZ4.cell 1
          have t2 := bZ4.cell 2
          have f0 := bZ4.frozen 0
          have f1 := bZ4.frozen 1
          have f2 := bZ4.frozen 2
          simp at x0 x1 t0 t1 t2
          go_wp2_with fail
          go_region_held3 (fun w' => w'.cell? ⟨w.heap.size, 0, none⟩ = some (.int .i64 k1) ∧ w'.cell? ⟨w.heap.size, 1, none⟩ = some (.int .i64 p1) ∧ w'.cell? ⟨w.heap.size, 2, none⟩ = some (.slice A1 us.length c1) ∧ w'.cell? ⟨w.heap.size + 1, 0, none⟩ = some (.slice A2 y.length c2) ∧ w'.cell? ⟨w.heap.size + 1, 1, none⟩ = some (.slice A3 z.length c3) ∧ w'.cell? ⟨w2.heap.size, 0, none⟩ = some (.int .i64 k1) ∧ w'.cell? ⟨w2.heap.size, 1, none⟩ = some (.int .i64 p1) ∧ w'.cell? ⟨w2.heap.size, 2, none⟩ = some (.slice A M.length c))
            (((try go_split_ands); (try dsimp only); (repeat' apply And.intro) <;> (first | with_reducible assumption | with_reducible exact cell_far3 (by omega) (by with_reducible assumption) | with_reducible exact cell_far2 (by omega) (by with_reducible assumption) | ((with_reducible refine (World.cell?_alloc_lt _ _ _ ?_).trans ?_) <;> first | with_reducible assumption | omega | (simp <;> omega)) | ((with_reducible refine (hc8 _ _ ?_).trans ?_) <;> first | with_reducible assumption | omega | (simp <;> omega)) | go_keep)))
            (first
              | (go_at_call 77; ((with_reducible refine (scAll_any k1 p1 us A1 c1 y A2 c2 z A3 c3 (-1) _ r24.drew r34.drew fk f5H.out f2H.out (by omega) f3 f4 hcap3 (.inr rfl)).mono ?_); rintro e w8 ⟨A8, c8, rfl, o8, hb8⟩; (have s8 : wr.heap.size ≤ w8.heap.size := hb8.size); (have hc8 := (bcell hb8).1); (have hf8 := (bcell hb8).2); (have t0_8 := (hc8 _ _ (by first | omega | (simp <;> omega))).trans t0); (have t1_8 := (hc8 _ _ (by first | omega | (simp <;> omega))).trans t1); (have t2_8 := (hc8 _ _ (by first | omega | (simp <;> omega))).trans t2); (have f0_8 := (hf8 _ _ (by first | omega | (simp <;> omega))).trans f0); (have f1_8 := (hf8 _ _ (by first | omega | (simp <;> omega))).trans f1); (have f2_8 := (hf8 _ _ (by first | omega | (simp <;> omega))).trans f2); (have r48 := (r4.drew).st hb8); (have hB8 := (hB4.drew).trans (hb8.mono (by simp; omega))))))
          have rx := Lib.hid (Rd.st3 (g := w.heap.size + 2) r48 (by omega) (.int .i64 k1) (.int .i64 p1) (.slice A M.length c))
          have sx := Lib.hid (Rd.st3 (g := w.heap.size + 2) (show Rd w8 wr.heap.size w8.heap.size A8 _ from o8.rd') (by omega) (.int .i64 k1) (.int .i64 p1) (.slice A M.length c))
          have hBx := Lib.hid (set3 hB8 (show w.heap.size ≤ w.heap.size + 2 by omega) (.int .i64 k1) (.int .i64 p1) (.slice A M.length c))
          go_wp2_with fail
          refine bodyPost_ret (v := .tuple #[.agg #[.int .i64 k1, .int .i64 p1, .slice A M.length c], .slice A8 (shL z (numsL k1 y) (-1)).length c8, .bool true]) (by simp [results, Try.results33, go_sem, t0_8, t1_8, t2_8]) rfl ?_
          rw [hys.out.1, hys.out.2.1, hys.out.2.2.1, hys.out.2.2.2, hbH.out, ← htk.out, hMH.out]
          exact ⟨A, c, A8, c8, rfl, rx.out.mono (by omega) (by rw [size_st3]; omega), sx.out.mono (by omega) (by rw [size_st3]; omega), by omega, hlenH.out, hBx.out⟩
    · skip
      have o2' : Own w2 (w1.heap.size + 1) w2.heap.size (.slice A5 us.length c5) us := by
        have e : ((w1.alloc (.cells #[.int .i64 0, .int .i64 0, .slice none 0 0] 52)).drew).heap.size = w1.heap.size + 1 := by simp
        rw [e] at o2
        exact o2
      obtain ⟨W, hW⟩ : ∃ W, W = (((w2.setCell ⟨w1.heap.size, 0, none⟩ (.int .i64 k1)).setCell ⟨w1.heap.size, 1, none⟩ (.int .i64 p1)).setCell ⟨w1.heap.size, 2, none⟩ (.slice A5 us.length c5)) := ⟨_, rfl⟩
      have sW : W.heap.size = w2.heap.size := by rw [hW]; simp only [size_setCell]
      have hcap5 := o2'.len.2
      have hcM5 := o2'.capM
      have hA5 := o2'.addr_
      have rd5 : Rd W (w1.heap.size + 1) w2.heap.size A5 us := by rw [hW]; exact (o2'.rd').st3 (.inr (by omega)) _ _ _
      have bK5 : Bk W w.heap.size 52 #[.int .i64 k1, .int .i64 p1, .slice A1 us.length c1] := by rw [hW]; exact (((bK1.alloc _).drew).st hb2).far3 (by omega) _ _ _
      have bX5 : Bk W (w.heap.size + 1) 56 #[.slice A2 y.length c2, .slice A3 z.length c3] := by rw [hW]; exact (((bX1.alloc _).drew).st hb2).far3 (by omega) _ _ _
      have bZ5 : Bk W (w.heap.size + 2) 52 #[.int .i64 0, .int .i64 0, .slice none 0 0] := by rw [hW]; exact (((bZ1.alloc _).drew).st hb2).far3 (by omega) _ _ _
      have bG5 : Bk W w1.heap.size 52 #[.int .i64 k1, .int .i64 p1, .slice A5 us.length c5] := by rw [hW]; exact kG.put3 _ _ _
      have r15 : Rd W 0 w.heap.size A1 us := by rw [hW]; exact (((r11.alloc _).drew).st hb2).st3 (.inl (by omega)) _ _ _
      have r25 : Rd W 0 w.heap.size A2 y := by rw [hW]; exact (((r21.alloc _).drew).st hb2).st3 (.inl (by omega)) _ _ _
      have r35 : Rd W 0 w.heap.size A3 z := by rw [hW]; exact (((r31.alloc _).drew).st hb2).st3 (.inl (by omega)) _ _ _
      have hB5 : Below w.heap.size w W := by rw [hW]; exact set3 (((hB1.alloc (by omega) _).drew).trans (hb2.mono (by simp; omega))) (by omega) _ _ _
      have hst0 : w2.heap.size ≤ w1.heap.size ∨ w1.heap.size < w1.heap.size + 1 := .inr (Nat.lt_succ_self _)
      clear j0 j1 j2 g0 g1 g2 m0 m1 m2 kG hb2 hc2 o2 o2' bK1 bX1 bZ1 hB1 r11 r21 r31 y0 y1 y2 x0 x1 t0 t1 t2 f0 f1 f2
      have hlX5 := bX5.lt
      have x0 := bX5.cell 0
      have x1 := bX5.cell 1
      simp at x0 x1
      rw [← hW]
      clear hW
      go_wp2_with fail
      clear x0 x1
      go_loopw [9, 26] (fun _ x wr => ∃ k : Nat, k ≤ y.length ∧ x = .int .i64 k ∧ (∀ j (h : j < y.length), j < k → hasB us y[j] = false) ∧ ∃ A c l h, Bk wr w1.heap.size 52 #[.int .i64 k1, .int .i64 p1, .slice A (putM us (y.take k)).length c] ∧
          Rd wr l h A (putM us (y.take k)) ∧ (h ≤ w1.heap.size ∨ w1.heap.size < l) ∧ h ≤ wr.heap.size ∧ w.heap.size + 3 ≤ l ∧ (putM us (y.take k)).length ≤ c ∧ c ≤ 9223372036854775807 ∧ ((A = none ∧ c = 0) ∨ ∃ b off, A = some ⟨b, off, none⟩) ∧
          Rd wr 0 w.heap.size A1 us ∧ Rd wr 0 w.heap.size A2 y ∧ Rd wr 0 w.heap.size A3 z ∧ Bk wr w.heap.size 52 #[.int .i64 k1, .int .i64 p1, .slice A1 us.length c1] ∧ Bk wr (w.heap.size + 1) 56 #[.slice A2 y.length c2, .slice A3 z.length c3] ∧ Bk wr (w.heap.size + 2) 52 #[.int .i64 0, .int .i64 0, .slice none 0 0] ∧ Below w.heap.size w wr ∧ w1.heap.size + 1 ≤ wr.heap.size) (fun _ i _ => y.length - (intOf i).toNat)
      case atStart => exact ⟨0, Nat.zero_le _, rfl, fun j _ h => absurd h (by omega), A5, c5, (w1.heap.size + 1), w2.heap.size, bG5, rd5, hst0, by omega, by omega, hcap5, hcM5, hA5, r15, r25, r35, bK5, bX5, bZ5, hB5, by omega⟩
      case round =>
        clear bG5 rd5 hst0 hcap5 hcM5 hA5 r15 r25 r35 bK5 bX5 bZ5 hB5
        obtain ⟨k, hk, rfl, hall, A, c, l, h, bG4, r4, hg4, hh4, hl4, hcap4, hcM4, hA4, r14, r24, r34, bK4, bX4, bZ4, hB4, hs4⟩ := hrel
        have hml := putM_len us (y.take k)
        have htl : (y.take k).length ≤ 60 := by rw [List.length_take]; omega
        have hl6 : (putM us (y.take k)).length ≤ 1048575 := by omega
        have hallH := Lib.hid hall
        clear hall hml htl
        have hlG4 := bG4.lt
        have hlK4 := bK4.lt
        have hlX4 := bX4.lt
        have hlZ4 := bZ4.lt
        have neG : ¬ w.heap.size = w1.heap.size := by omega
        have v0 := bG4.cell 0
        have v1 := bG4.cell 1
        have v2 := bG4.cell 2
        have y0 := bK4.cell 0
        have y1 := bK4.cell 1
        have y2 := bK4.cell 2
        have n0 := bG4.frozen 0
        have n1 := bG4.frozen 1
        have n2 := bG4.frozen 2
        simp at v0 v1 v2 y0 y1 y2
        by_cases hlt : k < y.length
        · obtain ⟨b2, off2, rfl, _, hb2l, hc2⟩ := r24 (by omega)
          have e0 := hc2 k hlt
          clear hc2
          cases hu : hasB us y[k] with
          | true =>
            have hb : rsB k1 p1 us y z = false := by simp [rsB, newB_at hlt hu]
            have hno := Lib.hid (rs_no hb)
            have hbH := Lib.hid hb
            clear hb
            have t0 := bZ4.cell 0
            have t1 := bZ4.cell 1
            have t2 := bZ4.cell 2
            have f0 := bZ4.frozen 0
            have f1 := bZ4.frozen 1
            have f2 := bZ4.frozen 2
            simp at t0 t1 t2
            go_wp2_with (first | (go_at_call 84; (with_reducible refine (l1Has_v us A1 c1 y[k] _ r14 (by omega) _ hu).mono ?_); rintro e w' ⟨rfl, rfl⟩) | fail)
            refine bodyPost_ret (v := .tuple #[.agg #[.int .i64 0, .int .i64 0, .slice none 0 0], .slice none 0 0, .bool false]) (by simp [results, Try.results33, go_sem, t0, t1, t2]) rfl ?_
            rw [hno.out.1, hno.out.2.1, hno.out.2.2.1, hno.out.2.2.2, hbH.out]
            first | with_reducible exact TwoRd.no rfl hB4 | exact TwoRd.no rfl (set3 hB4 (by omega) _ _ _)
          | false =>
            obtain ⟨L, hL⟩ : ∃ L, putL (putM us (y.take k)) y[k] = L := ⟨_, rfl⟩
            have hUL := Lib.hid (show putM us (y.take (k + 1)) = L by rw [putM_succ us y k hlt, hL])
            have hLl := putL_len (putM us (y.take k)) y[k]
            rw [hL] at hLl
            have hLm : L.length ≤ 1048576 := by omega
            have hall2 := Lib.hid (show ∀ j (h : j < y.length), j < k + 1 → hasB us y[j] = false from fun j hj hjk => by
              by_cases e : j = k
              · subst e; exact hu
              · exact hallH.out j hj (by omega))
            clear hLl
            go_wp2_with (first | (go_at_call 84; (with_reducible refine (l1Has_v us A1 c1 y[k] _ r14 (by omega) _ hu).mono ?_); rintro e w' ⟨rfl, rfl⟩) | fail)
            (with_reducible refine (l1Put_L (putM us (y.take k)) A c y[k] _ r4 (by omega) hcap4 hcM4 hA4 L hL).mono ?_)
            rintro e w6 ⟨A6, c6, l6, h6, rfl, r6, hor6, lc6, mc6, ha6, hb6⟩
            have s6 : wr.heap.size ≤ w6.heap.size := hb6.size
            have hg6 : h6 ≤ w1.heap.size ∨ w1.heap.size < l6 := by rcases hor6 with ⟨a, b⟩ | ⟨a, b⟩ <;> omega
            have hh6 : h6 ≤ w6.heap.size := by rcases hor6 with ⟨a, b⟩ | ⟨a, b⟩ <;> omega
            have hl6' : w.heap.size + 3 ≤ l6 := by rcases hor6 with ⟨a, b⟩ | ⟨a, b⟩ <;> omega
            have bG6 := bG4.st hb6
            have kG : Bk (w6.setCell ⟨w1.heap.size, 2, none⟩ (.slice A6 L.length c6)) w1.heap.size 52 #[.int .i64 k1, .int .i64 p1, .slice A6 L.length c6] := by simpa using bG6.set_ 2 (.slice A6 L.length c6)
            have kK := (bK4.st hb6).far (p := ⟨w1.heap.size, 2, none⟩) (by dsimp only; omega) (.slice A6 L.length c6)
            have kX := (bX4.st hb6).far (p := ⟨w1.heap.size, 2, none⟩) (by dsimp only; omega) (.slice A6 L.length c6)
            have kZ := (bZ4.st hb6).far (p := ⟨w1.heap.size, 2, none⟩) (by dsimp only; omega) (.slice A6 L.length c6)
            have q1 := (r14.st hb6).setCell (p := ⟨w1.heap.size, 2, none⟩) (by dsimp only; omega) (.slice A6 L.length c6)
            have q2 := (r24.st hb6).setCell (p := ⟨w1.heap.size, 2, none⟩) (by dsimp only; omega) (.slice A6 L.length c6)
            have q3 := (r34.st hb6).setCell (p := ⟨w1.heap.size, 2, none⟩) (by dsimp only; omega) (.slice A6 L.length c6)
            have q4 := Rd.store (p := ⟨w1.heap.size, 2, none⟩) r6 (by dsimp only; omega) (.slice A6 L.length c6)
            have hBc := Lib.hid ((hB4.trans (hb6.mono (by omega))).setCell (p := ⟨w1.heap.size, 2, none⟩) (by dsimp only; omega) (.slice A6 L.length c6))
            have hsz := Lib.hid (size_setCell w6 ⟨w1.heap.size, 2, none⟩ (.slice A6 L.length c6))
            clear v0 v1 v2 n0 n1 n2 y0 y1 y2 e0
            have v0 := bG6.cell 0
            have v1 := bG6.cell 1
            have v2 := bG6.cell 2
            have n0 := bG6.frozen 0
            have n1 := bG6.frozen 1
            have n2 := bG6.frozen 2
            simp at v0 v1 v2
            have kGH := Lib.hid kG
            have kKH := Lib.hid kK
            have kXH := Lib.hid kX
            have kZH := Lib.hid kZ
            have q1H := Lib.hid q1
            have q2H := Lib.hid q2
            have q3H := Lib.hid q3
            have q4H := Lib.hid q4
            clear bG6 kG kK kX kZ q1 q2 q3 q4 r4 r14 r24 r34 bG4 bK4 bX4 bZ4 hB4 hb6 r6 hor6
            go_wp2
            go_roundw
            case rel => exact ⟨k + 1, by omega, by go_num, hall2.out, A6, c6, l6, h6, by rw [hUL.out]; exact kGH.out, by rw [hUL.out]; exact q4H.out, hg6, by rw [hsz.out]; omega, hl6', by rw [hUL.out]; exact lc6, mc6, .inr ha6, q1H.out, q2H.out, q3H.out, kKH.out, kXH.out, kZH.out, hBc.out, by rw [hsz.out]; omega⟩
            case measure => simp [intOf]; omega
        · obtain rfl : k = y.length := by omega
          have hb : rsB k1 p1 us y z = true := by
            rw [rsB, q, Bool.true_and]
            exact newB_iff.2 fun j hj => hallH.out j hj hj
          have hys := Lib.hid (rs_yes hb)
          have hbH := Lib.hid hb
          have htk := Lib.hid (show putM us (y.take y.length) = putM us y by rw [List.take_length])
          obtain ⟨M, hM⟩ : ∃ M, putM us (y.take y.length) = M := ⟨_, rfl⟩
          rw [hM] at v2 r4 bG4 hcap4 hl6
          have hMH := Lib.hid hM
          have ne1 : ¬ w1.heap.size = w.heap.size + 2 := by omega
          clear hb hM
          have x0 := bX4.cell 0
          have x1 := bX4.cell 1
          have t0 := bZ4.cell 0
          have t1 := bZ4.cell 1
          have t2 := bZ4.cell 2
          have f0 := bZ4.frozen 0
          have f1 := bZ4.frozen 1
          have f2 := bZ4.frozen 2
          simp at x0 x1 t0 t1 t2
          go_wp2_with fail
          go_region_held3 (fun w' => w'.cell? ⟨w.heap.size, 0, none⟩ = some (.int .i64 k1) ∧ w'.cell? ⟨w.heap.size, 1, none⟩ = some (.int .i64 p1) ∧ w'.cell? ⟨w.heap.size, 2, none⟩ = some (.slice A1 us.length c1) ∧ w'.cell? ⟨w.heap.size + 1, 0, none⟩ = some (.slice A2 y.length c2) ∧ w'.cell? ⟨w.heap.size + 1, 1, none⟩ = some (.slice A3 z.length c3) ∧ w'.cell? ⟨w1.heap.size, 0, none⟩ = some (.int .i64 k1) ∧ w'.cell? ⟨w1.heap.size, 1, none⟩ = some (.int .i64 p1) ∧ w'.cell? ⟨w1.heap.size, 2, none⟩ = some (.slice A M.length c))
            (((try go_split_ands); (try dsimp only); (repeat' apply And.intro) <;> (first | with_reducible assumption | with_reducible exact cell_far3 (by omega) (by with_reducible assumption) | with_reducible exact cell_far2 (by omega) (by with_reducible assumption) | ((with_reducible refine (World.cell?_alloc_lt _ _ _ ?_).trans ?_) <;> first | with_reducible assumption | omega | (simp <;> omega)) | ((with_reducible refine (hc8 _ _ ?_).trans ?_) <;> first | with_reducible assumption | omega | (simp <;> omega)) | go_keep)))
            (first
              | (go_at_call 77; ((with_reducible refine (scAll_any k1 p1 us A1 c1 y A2 c2 z A3 c3 (-1) _ r24.drew r34.drew fk f5H.out f2H.out (by omega) f3 f4 hcap3 (.inr rfl)).mono ?_); rintro e w8 ⟨A8, c8, rfl, o8, hb8⟩; (have s8 : wr.heap.size ≤ w8.heap.size := hb8.size); (have hc8 := (bcell hb8).1); (have hf8 := (bcell hb8).2); (have t0_8 := (hc8 _ _ (by first | omega | (simp <;> omega))).trans t0); (have t1_8 := (hc8 _ _ (by first | omega | (simp <;> omega))).trans t1); (have t2_8 := (hc8 _ _ (by first | omega | (simp <;> omega))).trans t2); (have f0_8 := (hf8 _ _ (by first | omega | (simp <;> omega))).trans f0); (have f1_8 := (hf8 _ _ (by first | omega | (simp <;> omega))).trans f1); (have f2_8 := (hf8 _ _ (by first | omega | (simp <;> omega))).trans f2); (have r48 := (r4.drew).st hb8); (have hB8 := (hB4.drew).trans (hb8.mono (by simp; omega))))))
          have rx := Lib.hid (Rd.st3 (g := w.heap.size + 2) r48 (by omega) (.int .i64 k1) (.int .i64 p1) (.slice A M.length c))
          have sx := Lib.hid (Rd.st3 (g := w.heap.size + 2) (show Rd w8 wr.heap.size w8.heap.size A8 _ from o8.rd') (by omega) (.int .i64 k1) (.int .i64 p1) (.slice A M.length c))
          have hBx := Lib.hid (set3 hB8 (show w.heap.size ≤ w.heap.size + 2 by omega) (.int .i64 k1) (.int .i64 p1) (.slice A M.length c))
          go_wp2_with fail
          refine bodyPost_ret (v := .tuple #[.agg #[.int .i64 k1, .int .i64 p1, .slice A M.length c], .slice A8 (shL z (numsL k1 y) (-1)).length c8, .bool true]) (by simp [results, Try.results33, go_sem, t0_8, t1_8, t2_8]) rfl ?_
          rw [hys.out.1, hys.out.2.1, hys.out.2.2.1, hys.out.2.2.2, hbH.out, ← htk.out, hMH.out]
          exact ⟨A, c, A8, c8, rfl, rx.out.mono (by omega) (by rw [size_st3]; omega), sx.out.mono (by omega) (by rw [size_st3]; omega), by omega, hlenH.out, hBx.out⟩
end Go.Proofs.Yteajjbfecpffeaa
