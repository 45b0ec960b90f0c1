/-
  Contracts of HideMessage, in the program and in the reference. The conditions are bounds on lengths.
-/
import Derived.Test.YteajjbfecpffeaaPureM
import Derived.Test.YteajjbfecpffeaaForLenS
namespace Go.Proofs.Yteajjbfecpffeaa
open Go.RowKit Go.ChangeShapes Go.WideShapes
set_option linter.unusedVariables false
set_option linter.unusedSimpArgs false

/-- what a call returns that makes a key book and a secret -/
def HmOwn (k p : Int) (us ps ss : List Int) (b : Bool) (w : World) (e : Ending) (w' : World) : Prop :=
  ∃ A c B d C f l1 r1 l2 r2 l3 r3, e = .returned (.tuple #[.agg #[.int .i64 k, .int .i64 p, .slice A us.length c], .agg #[.slice B ps.length d, .slice C ss.length f], .bool b]) ∧ Own w' l1 r1 (.slice A us.length c) us ∧ Own w' l2 r2 (.slice B ps.length d) ps ∧ Own w' l3 r3 (.slice C ss.length f) ss ∧
    (w.heap.size ≤ l1 ∧ r1 ≤ w'.heap.size ∧ w.heap.size ≤ l2 ∧ r2 ≤ w'.heap.size ∧ w.heap.size ≤ l3 ∧ r3 ≤ w'.heap.size ∧ (r1 ≤ l2 ∨ r2 ≤ l1) ∧ (r1 ≤ l3 ∨ r3 ≤ l1) ∧ (r2 ≤ l3 ∨ r3 ≤ l2)) ∧ us.length ≤ 1048576 ∧ ps.length ≤ 1048576 ∧ ss.length ≤ 1048576 ∧ Below w.heap.size w w'
theorem HmOwn.no {w w' : World} {e : Ending} (he : e = .returned (.tuple #[.agg #[.int .i64 0, .int .i64 0, .slice none 0 0], .agg #[.slice none 0 0, .slice none 0 0], .bool false])) (hB : Below w.heap.size w w') : HmOwn 0 0 [] [] [] false w e w' :=
  ⟨none, 0, none, 0, none, 0, w.heap.size, w.heap.size, w.heap.size, w.heap.size, w.heap.size, w.heap.size, he, Own.nil, Own.nil, Own.nil, ⟨Nat.le_refl _, hB.size, Nat.le_refl _, hB.size, Nat.le_refl _, hB.size, .inl (Nat.le_refl _), .inl (Nat.le_refl _), .inl (Nat.le_refl _)⟩, by simp, by simp, by simp, hB⟩
/-- the same of the reference -/
def HmRd (k p : Int) (us ps ss : List Int) (b : Bool) (w : World) (e : Ending) (w' : World) : Prop :=
  ∃ A c B d C f, e = .returned (.tuple #[.agg #[.int .i64 k, .int .i64 p, .slice A us.length c], .agg #[.slice B ps.length d, .slice C ss.length f], .bool b]) ∧ Rd w' 0 w'.heap.size A us ∧ Rd w' 0 w'.heap.size B ps ∧ Rd w' 0 w'.heap.size C ss ∧ us.length ≤ 1048576 ∧ ps.length ≤ 1048576 ∧ ss.length ≤ 1048576 ∧ Below w.heap.size w w'
theorem HmRd.no {w w' : World} {e : Ending} (he : e = .returned (.tuple #[.agg #[.int .i64 0, .int .i64 0, .slice none 0 0], .agg #[.slice none 0 0, .slice none 0 0], .bool false])) (hB : Below w.heap.size w w') : HmRd 0 0 [] [] [] false w e w' :=
  ⟨none, 0, none, 0, none, 0, he, Rd.nil, Rd.nil, Rd.nil, by simp, by simp, by simp, hB⟩
theorem set5 {B g g' : Nat} {w w' : World} (h : Below B w w') (h1 : B ≤ g) (h2 : B ≤ g') (a b c d e : Value) : Below B w (((((w'.setCell ⟨g, 0, none⟩ a).setCell ⟨g, 1, none⟩ b).setCell ⟨g, 2, none⟩ c).setCell ⟨g', 0, none⟩ d).setCell ⟨g', 1, none⟩ e) :=
  ((((h.setCell (p := ⟨g, 0, none⟩) h1 a).setCell (p := ⟨g, 1, none⟩) h1 b).setCell (p := ⟨g, 2, none⟩) h1 c).setCell (p := ⟨g', 0, none⟩) h2 d).setCell (p := ⟨g', 1, none⟩) h2 e
theorem Own.set5 {lo hi g g' : Nat} {w : World} {v : Value} {zs : List Int} (h : Own w lo hi v zs) (h1 : g < lo ∨ hi ≤ g) (h2 : g' < lo ∨ hi ≤ g') (a b c d e : Value) : Own (((((w.setCell ⟨g, 0, none⟩ a).setCell ⟨g, 1, none⟩ b).setCell ⟨g, 2, none⟩ c).setCell ⟨g', 0, none⟩ d).setCell ⟨g', 1, none⟩ e) lo hi v zs :=
  ((((h.setCell (p := ⟨g, 0, none⟩) h1 a).setCell (p := ⟨g, 1, none⟩) h1 b).setCell (p := ⟨g, 2, none⟩) h1 c).setCell (p := ⟨g', 0, none⟩) h2 d).setCell (p := ⟨g', 1, none⟩) h2 e
theorem Rd.set5 {lo hi g g' : Nat} {w : World} {A : Option Addr} {zs : List Int} (h : Rd w lo hi A zs) (h1 : hi ≤ g ∨ g < lo) (h2 : hi ≤ g' ∨ g' < lo) (a b c d e : Value) : Rd (((((w.setCell ⟨g, 0, none⟩ a).setCell ⟨g, 1, none⟩ b).setCell ⟨g, 2, none⟩ c).setCell ⟨g', 0, none⟩ d).setCell ⟨g', 1, none⟩ e) lo hi A zs :=
  ((((h.store (p := ⟨g, 0, none⟩) h1 a).store (p := ⟨g, 1, none⟩) h1 b).store (p := ⟨g, 2, none⟩) h1 c).store (p := ⟨g', 0, none⟩) h2 d).store (p := ⟨g', 1, none⟩) h2 e
theorem cell_far2 {w : World} {g b o : Nat} {x y v : Value} (hne : b ≠ g) (h : w.cell? ⟨b, o, none⟩ = some v) : ((w.setCell ⟨g, 0, none⟩ x).setCell ⟨g, 1, none⟩ y).cell? ⟨b, o, none⟩ = some v := by
  rw [World.cell?_setCell_other _ _ _ _ (fun e => hne (congrArg Addr.block e).symm), World.cell?_setCell_other _ _ _ _ (fun e => hne (congrArg Addr.block e).symm), h]
theorem cell_far3 {w : World} {g b o : Nat} {x y z v : Value} (hne : b ≠ g) (h : w.cell? ⟨b, o, none⟩ = some v) : (((w.setCell ⟨g, 0, none⟩ x).setCell ⟨g, 1, none⟩ y).setCell ⟨g, 2, none⟩ z).cell? ⟨b, o, none⟩ = some v := by
  rw [World.cell?_setCell_other _ _ _ _ (fun e => hne (congrArg Addr.block e).symm)]
  exact cell_far2 hne h
theorem iUfl_no (k1 p1 : Int) (z1 : List Int) (A1 : Option Addr) (c1 : Nat) (n : Int) {l h : Nat} (w : World) (hr0 : Rd w l h A1 z1) (hl : z1.length ≤ 1048576) (hb : ufB k1 p1 z1 n = false) :
    Calls Try.prog 72 #[.agg #[.int .i64 k1, .int .i64 p1, .slice A1 z1.length c1], .int .i64 n] w fun e w' => ∃ A c B d, e = .returned (.tuple #[.agg #[.int .i64 0, .int .i64 0, .slice A 0 c], .slice B 0 d, .bool false]) ∧ Below w.heap.size w w' := by
  refine (iUseForLength_any k1 p1 z1 A1 c1 n w hr0 hl).mono fun e w' h => ?_
  obtain ⟨h1, h2, h3, h4⟩ := uf_no hb
  rw [h1, h2, h3, h4, hb] at h
  obtain ⟨A, c, B, d, l1, r1, l2, r2, rfl, _, _, _, _, _, hB⟩ := h
  exact ⟨A, c, B, d, rfl, hB⟩
theorem iUfl_yes (k1 p1 : Int) (z1 : List Int) (A1 : Option Addr) (c1 : Nat) (n : Int) {l h : Nat} (w : World) (hr0 : Rd w l h A1 z1) (hl : z1.length ≤ 1048576) (hb : ufB k1 p1 z1 n = true) (L P : List Int) (hL : ufU z1 (ufM n) = L) (hP : ufP z1 (ufM n) = P) :
    Calls Try.prog 72 #[.agg #[.int .i64 k1, .int .i64 p1, .slice A1 z1.length c1], .int .i64 n] w (TwoOwn k1 p1 L P true w) := by
  subst hL hP
  refine (iUseForLength_any k1 p1 z1 A1 c1 n w hr0 hl).mono fun e w' h => ?_
  obtain ⟨h1, h2, h3, h4⟩ := uf_yes hb
  rwa [h1, h2, h3, h4, hb] at h
theorem sUfl_no (k1 p1 : Int) (z1 : List Int) (A1 : Option Addr) (c1 : Nat) (n : Int) {l h : Nat} (w : World) (hr0 : Rd w l h A1 z1) (hl : z1.length ≤ 1048576) (hb : ufB k1 p1 z1 n = false) :
    Calls Try.prog 76 #[.agg #[.int .i64 k1, .int .i64 p1, .slice A1 z1.length c1], .int .i64 n] w fun e w' => ∃ A c B d, e = .returned (.tuple #[.agg #[.int .i64 0, .int .i64 0, .slice A 0 c], .slice B 0 d, .bool false]) ∧ Below w.heap.size w w' := by
  refine (sUseForLength_any k1 p1 z1 A1 c1 n w hr0 hl).mono fun e w' h => ?_
  obtain ⟨h1, h2, h3, h4⟩ := uf_no hb
  rw [h1, h2, h3, h4, hb] at h
  obtain ⟨A, c, B, d, rfl, _, _, _, _, hB⟩ := h
  exact ⟨A, c, B, d, rfl, hB⟩
theorem sUfl_yes (k1 p1 : Int) (z1 : List Int) (A1 : Option Addr) (c1 : Nat) (n : Int) {l h : Nat} (w : World) (hr0 : Rd w l h A1 z1) (hl : z1.length ≤ 1048576) (hb : ufB k1 p1 z1 n = true) (L P : List Int) (hL : ufU z1 (ufM n) = L) (hP : ufP z1 (ufM n) = P) :
    Calls Try.prog 76 #[.agg #[.int .i64 k1, .int .i64 p1, .slice A1 z1.length c1], .int .i64 n] w (TwoRd k1 p1 L P true w) := by
  subst hL hP
  refine (sUseForLength_any k1 p1 z1 A1 c1 n w hr0 hl).mono fun e w' h => ?_
  obtain ⟨h1, h2, h3, h4⟩ := uf_yes hb
  rwa [h1, h2, h3, h4, hb] at h

set_option maxHeartbeats 2000000 in
theorem iHideMessage_any (k1 p1 : Int) (us : List Int) (A1 : Option Addr) (c1 : Nat) (ss : List Int) (A2 : Option Addr) (c2 : Nat) {l h l' h' : Nat} (w : World) (r10 : Rd w l h A1 us) (r20 : Rd w l' h' A2 ss) (hl1 : us.length ≤ 1048576) (hl2 : ss.length ≤ 1048576) :
    Calls Try.prog 29 #[.agg #[.int .i64 k1, .int .i64 p1, .slice A1 us.length c1], .slice A2 ss.length c2] w (HmOwn (hmK k1 p1 us ss) (hmG k1 p1 us ss) (hmL k1 p1 us ss) (hmP k1 p1 us ss) (hmS k1 p1 us ss) (hmB k1 p1 us ss) w) := by
  have r1 := r10.std
  have r2 := r20.std
  clear r10 r20
  have hB : Below w.heap.size w (((w.alloc (.cells #[.int .i64 k1, .int .i64 p1, .slice A1 us.length c1] 52)).alloc (.cells #[.int .i64 0, .int .i64 0, .slice none 0 0] 52)).alloc (.cells #[.slice none 0 0, .slice none 0 0] 56)) := (((Below.refl _ _).alloc (Nat.le_refl _) _).alloc (by simp) _).alloc (by simp; omega) _
  have bK : Bk (((w.alloc (.cells #[.int .i64 k1, .int .i64 p1, .slice A1 us.length c1] 52)).alloc (.cells #[.int .i64 0, .int .i64 0, .slice none 0 0] 52)).alloc (.cells #[.slice none 0 0, .slice none 0 0] 56)) w.heap.size 52 #[.int .i64 k1, .int .i64 p1, .slice A1 us.length c1] := ((Bk.new w _ _).alloc _).alloc _
  have bZ : Bk (((w.alloc (.cells #[.int .i64 k1, .int .i64 p1, .slice A1 us.length c1] 52)).alloc (.cells #[.int .i64 0, .int .i64 0, .slice none 0 0] 52)).alloc (.cells #[.slice none 0 0, .slice none 0 0] 56)) (w.heap.size + 1) 52 #[.int .i64 0, .int .i64 0, .slice none 0 0] := (Bk.new2 w _ _ _).alloc _
  have bS : Bk (((w.alloc (.cells #[.int .i64 k1, .int .i64 p1, .slice A1 us.length c1] 52)).alloc (.cells #[.int .i64 0, .int .i64 0, .slice none 0 0] 52)).alloc (.cells #[.slice none 0 0, .slice none 0 0] 56)) (w.heap.size + 2) 56 #[.slice none 0 0, .slice none 0 0] := Bk.new3 w _ _ _ _

  by_cases z : ss.length ≤ 60
  · cases q2 : allB ss 1 60 with
    | false =>
      have hb : hmB k1 p1 us ss = false := by simp [hmB, q2]
      obtain ⟨e1, e2, e3, e4, e5⟩ := hm_no hb
      rw [e1, e2, e3, e4, e5, hb]
      clear e1 e2 e3 e4 e5 hb
      have zi : ¬ (60 : Int) < (ss.length : Int) := by omega
      have y0 := bK.cell 0
      have y1 := bK.cell 1
      have y2 := bK.cell 2
      have t0 := bZ.cell 0
      have t1 := bZ.cell 1
      have t2 := bZ.cell 2
      have s0 := bS.cell 0
      have s1 := bS.cell 1
      have f0 := bZ.frozen 0
      have f1 := bZ.frozen 1
      have f2 := bZ.frozen 2
      have g0 := bS.frozen 0
      have g1 := bS.frozen 1
      have hlS := bS.lt
      simp at y0 y1 y2 t0 t1 t2 s0 s1
      go_enter Try.func29, Try.ntmps29
      go_wp2_with (go_at_call 71; (with_reducible refine (allWithin_w ss A2 c2 1 60 _ (((r2.alloc _).alloc _).alloc _) hl2 _ q2).mono ?_); rintro e w' ⟨rfl, rfl⟩)
      refine bodyPost_ret (v := .tuple #[.agg #[.int .i64 0, .int .i64 0, .slice none 0 0], .agg #[.slice none 0 0, .slice none 0 0], .bool false]) (by simp [results, Try.results29, go_sem, t0, t1, t2, s0, s1]) rfl ?_
      first | with_reducible exact HmOwn.no rfl hB | exact HmOwn.no rfl (set5 hB (by omega) (by omega) _ _ _ _ _)
    | true =>
      have zi : ¬ (60 : Int) < (ss.length : Int) := by omega
      cases q3 : ufB k1 p1 us (ss.length : Int) with
      | false =>
        have hb : hmB k1 p1 us ss = false := by simp [hmB, q3]
        obtain ⟨e1, e2, e3, e4, e5⟩ := hm_no hb
        rw [e1, e2, e3, e4, e5, hb]
        clear e1 e2 e3 e4 e5 hb
        have y0 := bK.cell 0
        have y1 := bK.cell 1
        have y2 := bK.cell 2
        have t0 := bZ.cell 0
        have t1 := bZ.cell 1
        have t2 := bZ.cell 2
        have s0 := bS.cell 0
        have s1 := bS.cell 1
        have f0 := bZ.frozen 0
        have f1 := bZ.frozen 1
        have f2 := bZ.frozen 2
        have g0 := bS.frozen 0
        have g1 := bS.frozen 1
        have hlS := bS.lt
        simp at y0 y1 y2 t0 t1 t2 s0 s1
        go_enter Try.func29, Try.ntmps29
        go_wp2_with (first | (go_at_call 71; (with_reducible refine (allWithin_w ss A2 c2 1 60 _ (((r2.alloc _).alloc _).alloc _) hl2 _ q2).mono ?_); rintro e w' ⟨rfl, rfl⟩) | fail)
        (with_reducible refine (iUfl_no k1 p1 us A1 c1 (ss.length : Int) _ (((r1.alloc _).alloc _).alloc _) hl1 q3).mono ?_)
        rintro e w5 ⟨A5, c5, B5, d5, rfl, hb5⟩
        have s5 : w.heap.size + 3 ≤ w5.heap.size := by have := hb5.size; simpa using this
        have bZ5 := (bZ.st hb5).alloc (.cells #[.int .i64 0, .int .i64 0, .slice A5 0 c5] 52)
        have bS5 := (bS.st hb5).alloc (.cells #[.int .i64 0, .int .i64 0, .slice A5 0 c5] 52)
        have bK5 := (bK.st hb5).alloc (.cells #[.int .i64 0, .int .i64 0, .slice A5 0 c5] 52)
        have hB5 := (hB.trans (hb5.mono (by simp; omega))).alloc (by omega) (.cells #[.int .i64 0, .int .i64 0, .slice A5 0 c5] 52)
        clear y0 y1 y2 t0 t1 t2 s0 s1 f0 f1 f2 g0 g1 hlS
        have y0 := bK5.cell 0
        have y1 := bK5.cell 1
        have y2 := bK5.cell 2
        have t0 := bZ5.cell 0
        have t1 := bZ5.cell 1
        have t2 := bZ5.cell 2
        have s0 := bS5.cell 0
        have s1 := bS5.cell 1
        have f0 := bZ5.frozen 0
        have f1 := bZ5.frozen 1
        have f2 := bZ5.frozen 2
        have g0 := bS5.frozen 0
        have g1 := bS5.frozen 1
        have hlS := bS5.lt
        simp at y0 y1 y2 t0 t1 t2 s0 s1
        clear hB bK bZ bS hb5
        go_wp2_with fail
        refine bodyPost_ret (v := .tuple #[.agg #[.int .i64 0, .int .i64 0, .slice none 0 0], .agg #[.slice none 0 0, .slice none 0 0], .bool false]) (by simp [results, Try.results29, go_sem, t0, t1, t2, s0, s1]) rfl ?_
        first | with_reducible exact HmOwn.no rfl hB5 | exact HmOwn.no rfl (set5 hB5 (by omega) (by omega) _ _ _ _ _)
      | true =>
        have hb : hmB k1 p1 us ss = true := by simp [hmB, z, q2, q3]
        obtain ⟨e1, e2, e3, e4, e5⟩ := hm_yes hb
        rw [e1, e2, e3, e4, e5, hb]
        clear e1 e2 e3 e4 e5 hb
        have hfc := hm_facts z q2 q3
        generalize hP : ufP us (ufM (ss.length : Int)) = P at *
        generalize hL : ufU us (ufM (ss.length : Int)) = L at *
        obtain ⟨hk, hss, hpl, hp1, hp2, hpb⟩ := hfc
        have hnl := numsL_len k1 P
        have hsl := shL_len ss (numsL k1 P) 1 (by rw [hnl]; exact hp1)
        have hslH := Lib.hid hsl
        have hnle : ss.length ≤ (numsL k1 P).length := by rw [hnl]; exact hp1
        have hssH := Lib.hid hss
        have hpbH := Lib.hid hpb
        clear hnl hsl hss hpb
        have y0 := bK.cell 0
        have y1 := bK.cell 1
        have y2 := bK.cell 2
        have t0 := bZ.cell 0
        have t1 := bZ.cell 1
        have t2 := bZ.cell 2
        have s0 := bS.cell 0
        have s1 := bS.cell 1
        have f0 := bZ.frozen 0
        have f1 := bZ.frozen 1
        have f2 := bZ.frozen 2
        have g0 := bS.frozen 0
        have g1 := bS.frozen 1
        have hlS := bS.lt
        simp at y0 y1 y2 t0 t1 t2 s0 s1
        go_enter Try.func29, Try.ntmps29
        go_wp2_with (first | (go_at_call 71; (with_reducible refine (allWithin_w ss A2 c2 1 60 _ (((r2.alloc _).alloc _).alloc _) hl2 _ q2).mono ?_); rintro e w' ⟨rfl, rfl⟩) | fail)
        (with_reducible refine (iUfl_yes k1 p1 us A1 c1 (ss.length : Int) _ (((r1.alloc _).alloc _).alloc _) hl1 q3 L P hL hP).mono ?_)
        rintro e w5 ⟨A5, c5, B5, d5, il1, ir1, il2, ir2, rfl, o1, o2, ⟨b1x, b2, b3x, b4, b5⟩, n1, n2, hb5⟩
        have b1 : w.heap.size + 3 ≤ il1 := by simpa using b1x
        have b3 : w.heap.size + 3 ≤ il2 := by simpa using b3x
        clear b1x b3x
        have s5 : w.heap.size + 3 ≤ w5.heap.size := by have := hb5.size; simpa using this
        have bN := Bk.new w5 52 #[.int .i64 k1, .int .i64 p1, .slice A5 L.length c5]
        have bZ5 := (bZ.st hb5).alloc (.cells #[.int .i64 k1, .int .i64 p1, .slice A5 L.length c5] 52)
        have bS5 := (bS.st hb5).alloc (.cells #[.int .i64 k1, .int .i64 p1, .slice A5 L.length c5] 52)
        have bK5 := (bK.st hb5).alloc (.cells #[.int .i64 k1, .int .i64 p1, .slice A5 L.length c5] 52)
        have hB5 := (hB.trans (hb5.mono (by simp; omega))).alloc (by omega) (.cells #[.int .i64 k1, .int .i64 p1, .slice A5 L.length c5] 52)
        have r25 := ((((r2.alloc (.cells #[.int .i64 k1, .int .i64 p1, .slice A1 us.length c1] 52)).alloc (.cells #[.int .i64 0, .int .i64 0, .slice none 0 0] 52)).alloc (.cells #[.slice none 0 0, .slice none 0 0] 56)).st hb5).alloc (.cells #[.int .i64 k1, .int .i64 p1, .slice A5 L.length c5] 52)
        have o15 := o1.alloc (.cells #[.int .i64 k1, .int .i64 p1, .slice A5 L.length c5] 52)
        have o25 := o2.alloc (.cells #[.int .i64 k1, .int .i64 p1, .slice A5 L.length c5] 52)
        obtain ⟨W, hW⟩ : ∃ W, W = w5.alloc (.cells #[.int .i64 k1, .int .i64 p1, .slice A5 L.length c5] 52) := ⟨_, rfl⟩
        have sW : W.heap.size = w5.heap.size + 1 := by rw [hW]; simp
        rw [← hW] at bN bZ5 bS5 bK5 hB5 r25 o15 o25
        clear y0 y1 y2 t0 t1 t2 s0 s1 f0 f1 f2 g0 g1 hlS
        have y0 := bK5.cell 0
        have y1 := bK5.cell 1
        have y2 := bK5.cell 2
        have t0 := bZ5.cell 0
        have t1 := bZ5.cell 1
        have t2 := bZ5.cell 2
        have s0 := bS5.cell 0
        have s1 := bS5.cell 1
        have f0 := bZ5.frozen 0
        have f1 := bZ5.frozen 1
        have f2 := bZ5.frozen 2
        have g0 := bS5.frozen 0
        have g1 := bS5.frozen 1
        have hlS := bS5.lt
        simp at y0 y1 y2 t0 t1 t2 s0 s1
        have m0 := bN.cell 0
        have m1 := bN.cell 1
        have m2 := bN.cell 2
        simp at m0 m1 m2
        clear hB bK bZ bS hb5 o1 o2 r2 r1
        go_wp2_with fail
        rw [← hW]
        clear hW
        have sWl : w5.heap.size < W.heap.size := by omega
        have ne1 : ¬ w5.heap.size = w.heap.size + 1 := by omega
        have ne2 : ¬ w5.heap.size = w.heap.size + 2 := by omega
        have sWH := Lib.hid sW
        clear sW
        go_region_held3 (fun w' => w'.cell? ⟨w.heap.size, 0, none⟩ = some (.int .i64 k1) ∧ w'.cell? ⟨w.heap.size, 1, none⟩ = some (.int .i64 p1) ∧ w'.cell? ⟨w.heap.size, 2, none⟩ = some (.slice A1 us.length c1) ∧ w'.cell? ⟨w5.heap.size, 0, none⟩ = some (.int .i64 k1) ∧ w'.cell? ⟨w5.heap.size, 1, none⟩ = some (.int .i64 p1) ∧ w'.cell? ⟨w5.heap.size, 2, none⟩ = some (.slice A5 L.length c5))
          (((try go_split_ands); (try dsimp only); (repeat' apply And.intro) <;> (first | with_reducible assumption | with_reducible exact cell_far3 (by omega) (by with_reducible assumption) | with_reducible exact cell_far2 (by omega) (by with_reducible assumption) | ((with_reducible refine (hc8 _ _ ?_).trans ?_) <;> first | with_reducible assumption | omega | (simp <;> omega)) | ((with_reducible refine (hc7 _ _ ?_).trans ?_) <;> first | with_reducible assumption | omega | (simp <;> omega)) | go_keep)))
          (first
            | (go_at_call 74; ((with_reducible refine (numbersOf_any k1 p1 us A1 c1 P B5 d5 _ (o25.drew).rd' n2 hk hpbH.out).mono ?_); rintro e w7 ⟨A7, c7, rfl, o7, hb7⟩; (have s7 : w5.heap.size + 1 ≤ w7.heap.size := by have := hb7.size; have := sWH.out; simp at *; omega); (have hc7 := (bcell hb7).1); (have hf7 := (bcell hb7).2); (have t0_7 := (hc7 _ _ (by first | omega | (simp <;> omega))).trans t0); (have t1_7 := (hc7 _ _ (by first | omega | (simp <;> omega))).trans t1); (have t2_7 := (hc7 _ _ (by first | omega | (simp <;> omega))).trans t2); (have s0_7 := (hc7 _ _ (by first | omega | (simp <;> omega))).trans s0); (have s1_7 := (hc7 _ _ (by first | omega | (simp <;> omega))).trans s1); (have f0_7 := (hf7 _ _ (by first | omega | (simp <;> omega))).trans f0); (have f1_7 := (hf7 _ _ (by first | omega | (simp <;> omega))).trans f1); (have f2_7 := (hf7 _ _ (by first | omega | (simp <;> omega))).trans f2); (have g0_7 := (hf7 _ _ (by first | omega | (simp <;> omega))).trans g0); (have g1_7 := (hf7 _ _ (by first | omega | (simp <;> omega))).trans g1); (have r27 := (r25.drew).st hb7); (have o17 := (o15.drew).st hb7); (have o27 := (o25.drew).st hb7); (have hB7 := (hB5.drew).trans (hb7.mono (by have := sWH.out; simp; omega)))))
            | (go_at_call 73; ((with_reducible refine (shifted_any ss A2 c2 (numsL k1 P) A7 c7 1 _ r27 o7.rd' hnle (by omega) hssH.out (numsL_bd k1 P) (.inl rfl)).mono ?_); rintro e w8 ⟨A8, c8, rfl, o8, hb8⟩; (have s8 : w7.heap.size ≤ w8.heap.size := hb8.size); (have hc8 := (bcell hb8).1); (have hf8 := (bcell hb8).2); (have t0_8 := (hc8 _ _ (by first | omega | (simp <;> omega))).trans t0_7); (have t1_8 := (hc8 _ _ (by first | omega | (simp <;> omega))).trans t1_7); (have t2_8 := (hc8 _ _ (by first | omega | (simp <;> omega))).trans t2_7); (have s0_8 := (hc8 _ _ (by first | omega | (simp <;> omega))).trans s0_7); (have s1_8 := (hc8 _ _ (by first | omega | (simp <;> omega))).trans s1_7); (have f0_8 := (hf8 _ _ (by first | omega | (simp <;> omega))).trans f0_7); (have f1_8 := (hf8 _ _ (by first | omega | (simp <;> omega))).trans f1_7); (have f2_8 := (hf8 _ _ (by first | omega | (simp <;> omega))).trans f2_7); (have g0_8 := (hf8 _ _ (by first | omega | (simp <;> omega))).trans g0_7); (have g1_8 := (hf8 _ _ (by first | omega | (simp <;> omega))).trans g1_7); (have o18 := o17.st hb8); (have o28 := o27.st hb8); (have hB8 := hB7.trans (hb8.mono (by omega))))))
        clear t0 t1 t2 s0 s1 f0 f1 f2 g0 g1 y0 y1 y2 m0 m1 m2 t0_7 t1_7 t2_7 s0_7 s1_7 f0_7 f1_7 f2_7 g0_7 g1_7
        have q1 := Lib.hid (o18.set5 (g := w.heap.size + 1) (g' := w.heap.size + 2) (by omega) (by omega) (.int .i64 k1) (.int .i64 p1) (.slice A5 L.length c5) (.slice B5 P.length d5) (.slice A8 (shL ss (numsL k1 P) 1).length c8))
        have q2' := Lib.hid (o28.set5 (g := w.heap.size + 1) (g' := w.heap.size + 2) (by omega) (by omega) (.int .i64 k1) (.int .i64 p1) (.slice A5 L.length c5) (.slice B5 P.length d5) (.slice A8 (shL ss (numsL k1 P) 1).length c8))
        have q3' := Lib.hid (o8.set5 (g := w.heap.size + 1) (g' := w.heap.size + 2) (by omega) (by omega) (.int .i64 k1) (.int .i64 p1) (.slice A5 L.length c5) (.slice B5 P.length d5) (.slice A8 (shL ss (numsL k1 P) 1).length c8))
        have hBH := Lib.hid (set5 (g := w.heap.size + 1) (g' := w.heap.size + 2) hB8 (by omega) (by omega) (.int .i64 k1) (.int .i64 p1) (.slice A5 L.length c5) (.slice B5 P.length d5) (.slice A8 (shL ss (numsL k1 P) 1).length c8))
        go_wp2_with fail
        refine bodyPost_ret (v := .tuple #[.agg #[.int .i64 k1, .int .i64 p1, .slice A5 L.length c5], .agg #[.slice B5 P.length d5, .slice A8 (shL ss (numsL k1 P) 1).length c8], .bool true]) (by simp [results, Try.results29, go_sem, t0_8, t1_8, t2_8, s0_8, s1_8]) rfl ?_
        refine ⟨_, _, _, _, _, _, il1, ir1, il2, ir2, w7.heap.size, w8.heap.size, rfl, q1.out, q2'.out, q3'.out, ?_, n1, n2, by rw [hslH.out]; omega, hBH.out⟩
        have hsz := fun (a b c d e : Value) => show (((((w8.setCell ⟨w.heap.size + 1, 0, none⟩ a).setCell ⟨w.heap.size + 1, 1, none⟩ b).setCell ⟨w.heap.size + 1, 2, none⟩ c).setCell ⟨w.heap.size + 2, 0, none⟩ d).setCell ⟨w.heap.size + 2, 1, none⟩ e).heap.size = w8.heap.size by simp only [size_setCell]
        refine ⟨by omega, by rw [hsz]; omega, by omega, by rw [hsz]; omega, by omega, by rw [hsz]; omega, b5, .inl (by omega), .inl (by omega)⟩
  · have hb : hmB k1 p1 us ss = false := by simp [hmB, z]
    obtain ⟨e1, e2, e3, e4, e5⟩ := hm_no hb
    rw [e1, e2, e3, e4, e5, hb]
    clear e1 e2 e3 e4 e5 hb
    have zi : (60 : Int) < (ss.length : Int) := by omega
    have y0 := bK.cell 0
    have y1 := bK.cell 1
    have y2 := bK.cell 2
    have t0 := bZ.cell 0
    have t1 := bZ.cell 1
    have t2 := bZ.cell 2
    have s0 := bS.cell 0
    have s1 := bS.cell 1
    have f0 := bZ.frozen 0
    have f1 := bZ.frozen 1
    have f2 := bZ.frozen 2
    have g0 := bS.frozen 0
    have g1 := bS.frozen 1
    have hlS := bS.lt
    simp at y0 y1 y2 t0 t1 t2 s0 s1
    go_enter Try.func29, Try.ntmps29
    go_wp2
    refine bodyPost_ret (v := .tuple #[.agg #[.int .i64 0, .int .i64 0, .slice none 0 0], .agg #[.slice none 0 0, .slice none 0 0], .bool false]) (by simp [results, Try.results29, go_sem, t0, t1, t2, s0, s1]) rfl ?_
    first | with_reducible exact HmOwn.no rfl hB | exact HmOwn.no rfl (set5 hB (by omega) (by omega) _ _ _ _ _)

set_option maxHeartbeats 2000000 in
theorem sHideMessage_any (k1 p1 : Int) (us : List Int) (A1 : Option Addr) (c1 : Nat) (ss : List Int) (A2 : Option Addr) (c2 : Nat) {l h l' h' : Nat} (w : World) (r10 : Rd w l h A1 us) (r20 : Rd w l' h' A2 ss) (hl1 : us.length ≤ 1048576) (hl2 : ss.length ≤ 1048576) (hcap : ss.length ≤ c2) :
    Calls Try.prog 30 #[.agg #[.int .i64 k1, .int .i64 p1, .slice A1 us.length c1], .slice A2 ss.length c2] w (HmRd (hmK k1 p1 us ss) (hmG k1 p1 us ss) (hmL k1 p1 us ss) (hmP k1 p1 us ss) (hmS k1 p1 us ss) (hmB k1 p1 us ss) w) := by
  have r1 := r10.std
  have r2 := r20.std
  clear r10 r20
  have hB : Below w.heap.size w (((w.alloc (.cells #[.int .i64 k1, .int .i64 p1, .slice A1 us.length c1] 52)).alloc (.cells #[.int .i64 0, .int .i64 0, .slice none 0 0] 52)).alloc (.cells #[.slice none 0 0, .slice none 0 0] 56)) := (((Below.refl _ _).alloc (Nat.le_refl _) _).alloc (by simp) _).alloc (by simp; omega) _
  have bK : Bk (((w.alloc (.cells #[.int .i64 k1, .int .i64 p1, .slice A1 us.length c1] 52)).alloc (.cells #[.int .i64 0, .int .i64 0, .slice none 0 0] 52)).alloc (.cells #[.slice none 0 0, .slice none 0 0] 56)) w.heap.size 52 #[.int .i64 k1, .int .i64 p1, .slice A1 us.length c1] := ((Bk.new w _ _).alloc _).alloc _
  have bZ : Bk (((w.alloc (.cells #[.int .i64 k1, .int .i64 p1, .slice A1 us.length c1] 52)).alloc (.cells #[.int .i64 0, .int .i64 0, .slice none 0 0] 52)).alloc (.cells #[.slice none 0 0, .slice none 0 0] 56)) (w.heap.size + 1) 52 #[.int .i64 0, .int .i64 0, .slice none 0 0] := (Bk.new2 w _ _ _).alloc _
  have bS : Bk (((w.alloc (.cells #[.int .i64 k1, .int .i64 p1, .slice A1 us.length c1] 52)).alloc (.cells #[.int .i64 0, .int .i64 0, .slice none 0 0] 52)).alloc (.cells #[.slice none 0 0, .slice none 0 0] 56)) (w.heap.size + 2) 56 #[.slice none 0 0, .slice none 0 0] := Bk.new3 w _ _ _ _

  by_cases z : ss.length ≤ 60
  · cases q2 : allB ss 1 60 with
    | false =>
      have hb : hmB k1 p1 us ss = false := by simp [hmB, q2]
      obtain ⟨e1, e2, e3, e4, e5⟩ := hm_no hb
      rw [e1, e2, e3, e4, e5, hb]
      clear e1 e2 e3 e4 e5 hb
      have zi : ¬ (60 : Int) < (ss.length : Int) := by omega
      have y0 := bK.cell 0
      have y1 := bK.cell 1
      have y2 := bK.cell 2
      have t0 := bZ.cell 0
      have t1 := bZ.cell 1
      have t2 := bZ.cell 2
      have s0 := bS.cell 0
      have s1 := bS.cell 1
      have f0 := bZ.frozen 0
      have f1 := bZ.frozen 1
      have f2 := bZ.frozen 2
      have g0 := bS.frozen 0
      have g1 := bS.frozen 1
      have hlS := bS.lt
      simp at y0 y1 y2 t0 t1 t2 s0 s1
      go_enter Try.func30, Try.ntmps30
      go_wp2_with (go_at_call 75; (with_reducible refine (scCont_v ss A2 c2 _ (((r2.alloc _).alloc _).alloc _) hl2 _ q2).mono ?_); rintro e w' ⟨rfl, rfl⟩)
      refine bodyPost_ret (v := .tuple #[.agg #[.int .i64 0, .int .i64 0, .slice none 0 0], .agg #[.slice none 0 0, .slice none 0 0], .bool false]) (by simp [results, Try.results30, go_sem, t0, t1, t2, s0, s1]) rfl ?_
      first | with_reducible exact HmRd.no rfl hB | exact HmRd.no rfl (set5 hB (by omega) (by omega) _ _ _ _ _)
    | true =>
      have zi : ¬ (60 : Int) < (ss.length : Int) := by omega
      cases q3 : ufB k1 p1 us (ss.length : Int) with
      | false =>
        have hb : hmB k1 p1 us ss = false := by simp [hmB, q3]
        obtain ⟨e1, e2, e3, e4, e5⟩ := hm_no hb
        rw [e1, e2, e3, e4, e5, hb]
        clear e1 e2 e3 e4 e5 hb
        have y0 := bK.cell 0
        have y1 := bK.cell 1
        have y2 := bK.cell 2
        have t0 := bZ.cell 0
        have t1 := bZ.cell 1
        have t2 := bZ.cell 2
        have s0 := bS.cell 0
        have s1 := bS.cell 1
        have f0 := bZ.frozen 0
        have f1 := bZ.frozen 1
        have f2 := bZ.frozen 2
        have g0 := bS.frozen 0
        have g1 := bS.frozen 1
        have hlS := bS.lt
        simp at y0 y1 y2 t0 t1 t2 s0 s1
        go_enter Try.func30, Try.ntmps30
        go_wp2_with (first | (go_at_call 75; (with_reducible refine (scCont_v ss A2 c2 _ (((r2.alloc _).alloc _).alloc _) hl2 _ q2).mono ?_); rintro e w' ⟨rfl, rfl⟩) | fail)
        (with_reducible refine (sUfl_no k1 p1 us A1 c1 (ss.length : Int) _ (((r1.alloc _).alloc _).alloc _) hl1 q3).mono ?_)
        rintro e w5 ⟨A5, c5, B5, d5, rfl, hb5⟩
        have s5 : w.heap.size + 3 ≤ w5.heap.size := by have := hb5.size; simpa using this
        have bZ5 := (bZ.st hb5).alloc (.cells #[.int .i64 0, .int .i64 0, .slice A5 0 c5] 52)
        have bS5 := (bS.st hb5).alloc (.cells #[.int .i64 0, .int .i64 0, .slice A5 0 c5] 52)
        have bK5 := (bK.st hb5).alloc (.cells #[.int .i64 0, .int .i64 0, .slice A5 0 c5] 52)
        have hB5 := (hB.trans (hb5.mono (by simp; omega))).alloc (by omega) (.cells #[.int .i64 0, .int .i64 0, .slice A5 0 c5] 52)
        clear y0 y1 y2 t0 t1 t2 s0 s1 f0 f1 f2 g0 g1 hlS
        have y0 := bK5.cell 0
        have y1 := bK5.cell 1
        have y2 := bK5.cell 2
        have t0 := bZ5.cell 0
        have t1 := bZ5.cell 1
        have t2 := bZ5.cell 2
        have s0 := bS5.cell 0
        have s1 := bS5.cell 1
        have f0 := bZ5.frozen 0
        have f1 := bZ5.frozen 1
        have f2 := bZ5.frozen 2
        have g0 := bS5.frozen 0
        have g1 := bS5.frozen 1
        have hlS := bS5.lt
        simp at y0 y1 y2 t0 t1 t2 s0 s1
        clear hB bK bZ bS hb5
        go_wp2_with fail
        refine bodyPost_ret (v := .tuple #[.agg #[.int .i64 0, .int .i64 0, .slice none 0 0], .agg #[.slice none 0 0, .slice none 0 0], .bool false]) (by simp [results, Try.results30, go_sem, t0, t1, t2, s0, s1]) rfl ?_
        first | with_reducible exact HmRd.no rfl hB5 | exact HmRd.no rfl (set5 hB5 (by omega) (by omega) _ _ _ _ _)
      | true =>
        have hb : hmB k1 p1 us ss = true := by simp [hmB, z, q2, q3]
        obtain ⟨e1, e2, e3, e4, e5⟩ := hm_yes hb
        rw [e1, e2, e3, e4, e5, hb]
        clear e1 e2 e3 e4 e5 hb
        have hfc := hm_facts z q2 q3
        generalize hP : ufP us (ufM (ss.length : Int)) = P at *
        generalize hL : ufU us (ufM (ss.length : Int)) = L at *
        obtain ⟨hk, hss, hpl, hp1, hp2, hpb⟩ := hfc
        have hnl := numsL_len k1 P
        have hsl := shL_len ss (numsL k1 P) 1 (by rw [hnl]; exact hp1)
        have hslH := Lib.hid hsl
        have hnle : ss.length ≤ (numsL k1 P).length := by rw [hnl]; exact hp1
        have hssH := Lib.hid hss
        have hpbH := Lib.hid hpb
        clear hnl hsl hss hpb
        have y0 := bK.cell 0
        have y1 := bK.cell 1
        have y2 := bK.cell 2
        have t0 := bZ.cell 0
        have t1 := bZ.cell 1
        have t2 := bZ.cell 2
        have s0 := bS.cell 0
        have s1 := bS.cell 1
        have f0 := bZ.frozen 0
        have f1 := bZ.frozen 1
        have f2 := bZ.frozen 2
        have g0 := bS.frozen 0
        have g1 := bS.frozen 1
        have hlS := bS.lt
        simp at y0 y1 y2 t0 t1 t2 s0 s1
        go_enter Try.func30, Try.ntmps30
        go_wp2_with (first | (go_at_call 75; (with_reducible refine (scCont_v ss A2 c2 _ (((r2.alloc _).alloc _).alloc _) hl2 _ q2).mono ?_); rintro e w' ⟨rfl, rfl⟩) | fail)
        (with_reducible refine (sUfl_yes k1 p1 us A1 c1 (ss.length : Int) _ (((r1.alloc _).alloc _).alloc _) hl1 q3 L P hL hP).mono ?_)
        rintro e w5 ⟨A5, c5, B5, d5, rfl, o1x, o2x, n1, n2, hb5⟩
        have o1 := o1x.mono (show w.heap.size + 3 ≤ _ by simp) (Nat.le_refl _)
        have o2 := o2x.mono (show w.heap.size + 3 ≤ _ by simp) (Nat.le_refl _)
        clear o1x o2x
        have s5 : w.heap.size + 3 ≤ w5.heap.size := by have := hb5.size; simpa using this
        have bN := Bk.new w5 52 #[.int .i64 k1, .int .i64 p1, .slice A5 L.length c5]
        have bZ5 := (bZ.st hb5).alloc (.cells #[.int .i64 k1, .int .i64 p1, .slice A5 L.length c5] 52)
        have bS5 := (bS.st hb5).alloc (.cells #[.int .i64 k1, .int .i64 p1, .slice A5 L.length c5] 52)
        have bK5 := (bK.st hb5).alloc (.cells #[.int .i64 k1, .int .i64 p1, .slice A5 L.length c5] 52)
        have hB5 := (hB.trans (hb5.mono (by simp; omega))).alloc (by omega) (.cells #[.int .i64 k1, .int .i64 p1, .slice A5 L.length c5] 52)
        have r25 := ((((r2.alloc (.cells #[.int .i64 k1, .int .i64 p1, .slice A1 us.length c1] 52)).alloc (.cells #[.int .i64 0, .int .i64 0, .slice none 0 0] 52)).alloc (.cells #[.slice none 0 0, .slice none 0 0] 56)).st hb5).alloc (.cells #[.int .i64 k1, .int .i64 p1, .slice A5 L.length c5] 52)
        have o15 := o1.alloc (.cells #[.int .i64 k1, .int .i64 p1, .slice A5 L.length c5] 52)
        have o25 := o2.alloc (.cells #[.int .i64 k1, .int .i64 p1, .slice A5 L.length c5] 52)
        obtain ⟨W, hW⟩ : ∃ W, W = w5.alloc (.cells #[.int .i64 k1, .int .i64 p1, .slice A5 L.length c5] 52) := ⟨_, rfl⟩
        have sW : W.heap.size = w5.heap.size + 1 := by rw [hW]; simp
        rw [← hW] at bN bZ5 bS5 bK5 hB5 r25 o15 o25
        clear y0 y1 y2 t0 t1 t2 s0 s1 f0 f1 f2 g0 g1 hlS
        have y0 := bK5.cell 0
        have y1 := bK5.cell 1
        have y2 := bK5.cell 2
        have t0 := bZ5.cell 0
        have t1 := bZ5.cell 1
        have t2 := bZ5.cell 2
        have s0 := bS5.cell 0
        have s1 := bS5.cell 1
        have f0 := bZ5.frozen 0
        have f1 := bZ5.frozen 1
        have f2 := bZ5.frozen 2
        have g0 := bS5.frozen 0
        have g1 := bS5.frozen 1
        have hlS := bS5.lt
        simp at y0 y1 y2 t0 t1 t2 s0 s1
        have m0 := bN.cell 0
        have m1 := bN.cell 1
        have m2 := bN.cell 2
        simp at m0 m1 m2
        clear hB bK bZ bS hb5 o1 o2 r2 r1
        go_wp2_with fail
        rw [← hW]
        clear hW
        have sWl : w5.heap.size < W.heap.size := by omega
        have ne1 : ¬ w5.heap.size = w.heap.size + 1 := by omega
        have ne2 : ¬ w5.heap.size = w.heap.size + 2 := by omega
        have sWH := Lib.hid sW
        clear sW
        go_region_held3 (fun w' => w'.cell? ⟨w.heap.size, 0, none⟩ = some (.int .i64 k1) ∧ w'.cell? ⟨w.heap.size, 1, none⟩ = some (.int .i64 p1) ∧ w'.cell? ⟨w.heap.size, 2, none⟩ = some (.slice A1 us.length c1) ∧ w'.cell? ⟨w5.heap.size, 0, none⟩ = some (.int .i64 k1) ∧ w'.cell? ⟨w5.heap.size, 1, none⟩ = some (.int .i64 p1) ∧ w'.cell? ⟨w5.heap.size, 2, none⟩ = some (.slice A5 L.length c5))
          (((try go_split_ands); (try dsimp only); (repeat' apply And.intro) <;> (first | with_reducible assumption | with_reducible exact cell_far3 (by omega) (by with_reducible assumption) | with_reducible exact cell_far2 (by omega) (by with_reducible assumption) | ((with_reducible refine (hc8 _ _ ?_).trans ?_) <;> first | with_reducible assumption | omega | (simp <;> omega)) | go_keep)))
          (first | (go_at_call 77; ((with_reducible refine (scAll_any k1 p1 us A1 c1 P B5 d5 ss A2 c2 1 _ o25.drew r25.drew hk hpbH.out hssH.out (by omega) hp2 hp1 hcap (.inl rfl)).mono ?_); rintro e w8 ⟨A8, c8, rfl, o8, hb8⟩; (have s8 : w5.heap.size + 1 ≤ w8.heap.size := by have := hb8.size; have := sWH.out; simp at *; omega); (have hc8 := (bcell hb8).1); (have hf8 := (bcell hb8).2); (have t0_8 := (hc8 _ _ (by first | omega | (simp <;> omega))).trans t0); (have t1_8 := (hc8 _ _ (by first | omega | (simp <;> omega))).trans t1); (have t2_8 := (hc8 _ _ (by first | omega | (simp <;> omega))).trans t2); (have s0_8 := (hc8 _ _ (by first | omega | (simp <;> omega))).trans s0); (have s1_8 := (hc8 _ _ (by first | omega | (simp <;> omega))).trans s1); (have f0_8 := (hf8 _ _ (by first | omega | (simp <;> omega))).trans f0); (have f1_8 := (hf8 _ _ (by first | omega | (simp <;> omega))).trans f1); (have f2_8 := (hf8 _ _ (by first | omega | (simp <;> omega))).trans f2); (have g0_8 := (hf8 _ _ (by first | omega | (simp <;> omega))).trans g0); (have g1_8 := (hf8 _ _ (by first | omega | (simp <;> omega))).trans g1); (have o18 := (o15.drew).st hb8); (have o28 := (o25.drew).st hb8); (have hB8 := (hB5.drew).trans (hb8.mono (by have := sWH.out; simp; omega))))))
        clear t0 t1 t2 s0 s1 f0 f1 f2 g0 g1 y0 y1 y2 m0 m1 m2
        have q1 := Lib.hid (Rd.set5 (g := w.heap.size + 1) (g' := w.heap.size + 2) o18 (by omega) (by omega) (.int .i64 k1) (.int .i64 p1) (.slice A5 L.length c5) (.slice B5 P.length d5) (.slice A8 (shL ss (numsL k1 P) 1).length c8)).std
        have q2' := Lib.hid (Rd.set5 (g := w.heap.size + 1) (g' := w.heap.size + 2) o28 (by omega) (by omega) (.int .i64 k1) (.int .i64 p1) (.slice A5 L.length c5) (.slice B5 P.length d5) (.slice A8 (shL ss (numsL k1 P) 1).length c8)).std
        have q3' := Lib.hid (Rd.set5 (g := w.heap.size + 1) (g' := w.heap.size + 2) (show Rd w8 W.heap.size w8.heap.size _ _ from o8.rd') (by omega) (by omega) (.int .i64 k1) (.int .i64 p1) (.slice A5 L.length c5) (.slice B5 P.length d5) (.slice A8 (shL ss (numsL k1 P) 1).length c8)).std
        have hBH := Lib.hid (set5 (g := w.heap.size + 1) (g' := w.heap.size + 2) hB8 (by omega) (by omega) (.int .i64 k1) (.int .i64 p1) (.slice A5 L.length c5) (.slice B5 P.length d5) (.slice A8 (shL ss (numsL k1 P) 1).length c8))
        go_wp2_with fail
        refine bodyPost_ret (v := .tuple #[.agg #[.int .i64 k1, .int .i64 p1, .slice A5 L.length c5], .agg #[.slice B5 P.length d5, .slice A8 (shL ss (numsL k1 P) 1).length c8], .bool true]) (by simp [results, Try.results30, go_sem, t0_8, t1_8, t2_8, s0_8, s1_8]) rfl ?_
        exact ⟨_, _, _, _, _, _, rfl, q1.out, q2'.out, q3'.out, n1, n2, by rw [hslH.out]; omega, hBH.out⟩
  · have hb : hmB k1 p1 us ss = false := by simp [hmB, z]
    obtain ⟨e1, e2, e3, e4, e5⟩ := hm_no hb
    rw [e1, e2, e3, e4, e5, hb]
    clear e1 e2 e3 e4 e5 hb
    have zi : (60 : Int) < (ss.length : Int) := by omega
    have y0 := bK.cell 0
    have y1 := bK.cell 1
    have y2 := bK.cell 2
    have t0 := bZ.cell 0
    have t1 := bZ.cell 1
    have t2 := bZ.cell 2
    have s0 := bS.cell 0
    have s1 := bS.cell 1
    have f0 := bZ.frozen 0
    have f1 := bZ.frozen 1
    have f2 := bZ.frozen 2
    have g0 := bS.frozen 0
    have g1 := bS.frozen 1
    have hlS := bS.lt
    simp at y0 y1 y2 t0 t1 t2 s0 s1
    go_enter Try.func30, Try.ntmps30
    go_wp2
    refine bodyPost_ret (v := .tuple #[.agg #[.int .i64 0, .int .i64 0, .slice none 0 0], .agg #[.slice none 0 0, .slice none 0 0], .bool false]) (by simp [results, Try.results30, go_sem, t0, t1, t2, s0, s1]) rfl ?_
    first | with_reducible exact HmRd.no rfl hB | exact HmRd.no rfl (set5 hB (by omega) (by omega) _ _ _ _ _)
end Go.Proofs.Yteajjbfecpffeaa
