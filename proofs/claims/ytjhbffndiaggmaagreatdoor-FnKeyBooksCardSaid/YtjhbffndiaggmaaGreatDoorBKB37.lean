/-
  Contracts and plain laws that the walk uses, several texts in one. The conditions are named ahead of each.
-/
import Derived.Test.YtjhbffndiaggmaaGreatDoorBKB29
import Derived.Test.YtjhbffndiaggmaaGreatDoorBKB36

/-
  Contracts of HideMessage, in the program and in the reference. The conditions are bounds on lengths.
-/
namespace Go.Proofs.YtjhbffndiaggmaaGreatDoor
open Go.RowKit Go.ChangeShapes Go.WideShapes
set_option linter.unusedVariables false
set_option linter.unusedSimpArgs false

/-- what a call returns that makes a key book and a secret -/
def HmOwn (k p : Int) (us ps ss : List Int) (b : Bool) (w : World) (e : Ending) (w' : World) : Prop :=
  ∃ A c B d C f l1 r1 l2 r2 l3 r3, e = .returned (.tuple #[.agg #[.int .i64 k, .int .i64 p, .slice A us.length c], .agg #[.slice B ps.length d, .slice C ss.length f], .bool b]) ∧ Own w' l1 r1 (.slice A us.length c) us ∧ Own w' l2 r2 (.slice B ps.length d) ps ∧ Own w' l3 r3 (.slice C ss.length f) ss ∧
    (w.heap.size ≤ l1 ∧ r1 ≤ w'.heap.size ∧ w.heap.size ≤ l2 ∧ r2 ≤ w'.heap.size ∧ w.heap.size ≤ l3 ∧ r3 ≤ w'.heap.size ∧ (r1 ≤ l2 ∨ r2 ≤ l1) ∧ (r1 ≤ l3 ∨ r3 ≤ l1) ∧ (r2 ≤ l3 ∨ r3 ≤ l2)) ∧ us.length ≤ 1048576 ∧ ps.length ≤ 1048576 ∧ ss.length ≤ 1048576 ∧ Below w.heap.size w w'
theorem HmOwn.no {w w' : World} {e : Ending} (he : e = .returned (.tuple #[.agg #[.int .i64 0, .int .i64 0, .slice none 0 0], .agg #[.slice none 0 0, .slice none 0 0], .bool false])) (hB : Below w.heap.size w w') : HmOwn 0 0 [] [] [] false w e w' :=
  ⟨none, 0, none, 0, none, 0, w.heap.size, w.heap.size, w.heap.size, w.heap.size, w.heap.size, w.heap.size, he, Own.nil, Own.nil, Own.nil, ⟨Nat.le_refl _, hB.size, Nat.le_refl _, hB.size, Nat.le_refl _, hB.size, .inl (Nat.le_refl _), .inl (Nat.le_refl _), .inl (Nat.le_refl _)⟩, by simp, by simp, by simp, hB⟩
/-- the same of the reference -/
def HmRd (k p : Int) (us ps ss : List Int) (b : Bool) (w : World) (e : Ending) (w' : World) : Prop :=
  ∃ A c B d C f, e = .returned (.tuple #[.agg #[.int .i64 k, .int .i64 p, .slice A us.length c], .agg #[.slice B ps.length d, .slice C ss.length f], .bool b]) ∧ Rd w' 0 w'.heap.size A us ∧ Rd w' 0 w'.heap.size B ps ∧ Rd w' 0 w'.heap.size C ss ∧ us.length ≤ 1048576 ∧ ps.length ≤ 1048576 ∧ ss.length ≤ 1048576 ∧ Below w.heap.size w w'
theorem HmRd.no {w w' : World} {e : Ending} (he : e = .returned (.tuple #[.agg #[.int .i64 0, .int .i64 0, .slice none 0 0], .agg #[.slice none 0 0, .slice none 0 0], .bool false])) (hB : Below w.heap.size w w') : HmRd 0 0 [] [] [] false w e w' :=
  ⟨none, 0, none, 0, none, 0, he, Rd.nil, Rd.nil, Rd.nil, by simp, by simp, by simp, hB⟩
theorem set5 {B g g' : Nat} {w w' : World} (h : Below B w w') (h1 : B ≤ g) (h2 : B ≤ g') (a b c d e : Value) : Below B w (((((w'.setCell ⟨g, 0, none⟩ a).setCell ⟨g, 1, none⟩ b).setCell ⟨g, 2, none⟩ c).setCell ⟨g', 0, none⟩ d).setCell ⟨g', 1, none⟩ e) :=
  ((((h.setCell (p := ⟨g, 0, none⟩) h1 a).setCell (p := ⟨g, 1, none⟩) h1 b).setCell (p := ⟨g, 2, none⟩) h1 c).setCell (p := ⟨g', 0, none⟩) h2 d).setCell (p := ⟨g', 1, none⟩) h2 e
theorem Own.set5 {lo hi g g' : Nat} {w : World} {v : Value} {zs : List Int} (h : Own w lo hi v zs) (h1 : g < lo ∨ hi ≤ g) (h2 : g' < lo ∨ hi ≤ g') (a b c d e : Value) : Own (((((w.setCell ⟨g, 0, none⟩ a).setCell ⟨g, 1, none⟩ b).setCell ⟨g, 2, none⟩ c).setCell ⟨g', 0, none⟩ d).setCell ⟨g', 1, none⟩ e) lo hi v zs :=
  ((((h.setCell (p := ⟨g, 0, none⟩) h1 a).setCell (p := ⟨g, 1, none⟩) h1 b).setCell (p := ⟨g, 2, none⟩) h1 c).setCell (p := ⟨g', 0, none⟩) h2 d).setCell (p := ⟨g', 1, none⟩) h2 e
theorem Rd.set5 {lo hi g g' : Nat} {w : World} {A : Option Addr} {zs : List Int} (h : Rd w lo hi A zs) (h1 : hi ≤ g ∨ g < lo) (h2 : hi ≤ g' ∨ g' < lo) (a b c d e : Value) : Rd (((((w.setCell ⟨g, 0, none⟩ a).setCell ⟨g, 1, none⟩ b).setCell ⟨g, 2, none⟩ c).setCell ⟨g', 0, none⟩ d).setCell ⟨g', 1, none⟩ e) lo hi A zs :=
  ((((h.store (p := ⟨g, 0, none⟩) h1 a).store (p := ⟨g, 1, none⟩) h1 b).store (p := ⟨g, 2, none⟩) h1 c).store (p := ⟨g', 0, none⟩) h2 d).store (p := ⟨g', 1, none⟩) h2 e
theorem cell_far2 {w : World} {g b o : Nat} {x y v : Value} (hne : b ≠ g) (h : w.cell? ⟨b, o, none⟩ = some v) : ((w.setCell ⟨g, 0, none⟩ x).setCell ⟨g, 1, none⟩ y).cell? ⟨b, o, none⟩ = some v := by
  rw [World.cell?_setCell_other _ _ _ _ (fun e => hne (congrArg Addr.block e).symm), World.cell?_setCell_other _ _ _ _ (fun e => hne (congrArg Addr.block e).symm), h]
theorem cell_far3 {w : World} {g b o : Nat} {x y z v : Value} (hne : b ≠ g) (h : w.cell? ⟨b, o, none⟩ = some v) : (((w.setCell ⟨g, 0, none⟩ x).setCell ⟨g, 1, none⟩ y).setCell ⟨g, 2, none⟩ z).cell? ⟨b, o, none⟩ = some v := by
  rw [World.cell?_setCell_other _ _ _ _ (fun e => hne (congrArg Addr.block e).symm)]
  exact cell_far2 hne h
theorem sUfl_no (k1 p1 : Int) (z1 : List Int) (A1 : Option Addr) (c1 : Nat) (n : Int) {l h : Nat} (w : World) (hr0 : Rd w l h A1 z1) (hl : z1.length ≤ 1048576) (hb : ufB k1 p1 z1 n = false) :
    Calls Tryz.prog 187 #[.agg #[.int .i64 k1, .int .i64 p1, .slice A1 z1.length c1], .int .i64 n] w fun e w' => ∃ A c B d, e = .returned (.tuple #[.agg #[.int .i64 0, .int .i64 0, .slice A 0 c], .slice B 0 d, .bool false]) ∧ Below w.heap.size w w' := by
  refine (sUseForLength_any k1 p1 z1 A1 c1 n w hr0 hl).mono fun e w' h => ?_
  obtain ⟨h1, h2, h3, h4⟩ := uf_no hb
  rw [h1, h2, h3, h4, hb] at h
  obtain ⟨A, c, B, d, rfl, _, _, _, _, hB⟩ := h
  exact ⟨A, c, B, d, rfl, hB⟩
theorem sUfl_yes (k1 p1 : Int) (z1 : List Int) (A1 : Option Addr) (c1 : Nat) (n : Int) {l h : Nat} (w : World) (hr0 : Rd w l h A1 z1) (hl : z1.length ≤ 1048576) (hb : ufB k1 p1 z1 n = true) (L P : List Int) (hL : ufU z1 (ufM n) = L) (hP : ufP z1 (ufM n) = P) :
    Calls Tryz.prog 187 #[.agg #[.int .i64 k1, .int .i64 p1, .slice A1 z1.length c1], .int .i64 n] w (TwoRd k1 p1 L P true w) := by
  subst hL hP
  refine (sUseForLength_any k1 p1 z1 A1 c1 n w hr0 hl).mono fun e w' h => ?_
  obtain ⟨h1, h2, h3, h4⟩ := uf_yes hb
  rwa [h1, h2, h3, h4, hb] at h


set_option maxHeartbeats 2000000 in
theorem sHideMessage_any (k1 p1 : Int) (us : List Int) (A1 : Option Addr) (c1 : Nat) (ss : List Int) (A2 : Option Addr) (c2 : Nat) {l h l' h' : Nat} (w : World) (r10 : Rd w l h A1 us) (r20 : Rd w l' h' A2 ss) (hl1 : us.length ≤ 1048576) (hl2 : ss.length ≤ 1048576) (hcap : ss.length ≤ c2) :
    Calls Tryz.prog 157 #[.agg #[.int .i64 k1, .int .i64 p1, .slice A1 us.length c1], .slice A2 ss.length c2] w (HmRd (hmK k1 p1 us ss) (hmG k1 p1 us ss) (hmL k1 p1 us ss) (hmP k1 p1 us ss) (hmS k1 p1 us ss) (hmB k1 p1 us ss) w) := by
  have r1 := r10.std
  have r2 := r20.std
  clear r10 r20
  have hB : Below w.heap.size w (((w.alloc (.cells #[.int .i64 k1, .int .i64 p1, .slice A1 us.length c1] 26)).alloc (.cells #[.int .i64 0, .int .i64 0, .slice none 0 0] 26)).alloc (.cells #[.slice none 0 0, .slice none 0 0] 53)) := (((Below.refl _ _).alloc (Nat.le_refl _) _).alloc (by simp) _).alloc (by simp; omega) _
  have bK : Bk (((w.alloc (.cells #[.int .i64 k1, .int .i64 p1, .slice A1 us.length c1] 26)).alloc (.cells #[.int .i64 0, .int .i64 0, .slice none 0 0] 26)).alloc (.cells #[.slice none 0 0, .slice none 0 0] 53)) w.heap.size 26 #[.int .i64 k1, .int .i64 p1, .slice A1 us.length c1] := ((Bk.new w _ _).alloc _).alloc _
  have bZ : Bk (((w.alloc (.cells #[.int .i64 k1, .int .i64 p1, .slice A1 us.length c1] 26)).alloc (.cells #[.int .i64 0, .int .i64 0, .slice none 0 0] 26)).alloc (.cells #[.slice none 0 0, .slice none 0 0] 53)) (w.heap.size + 1) 26 #[.int .i64 0, .int .i64 0, .slice none 0 0] := (Bk.new2 w _ _ _).alloc _
  have bS : Bk (((w.alloc (.cells #[.int .i64 k1, .int .i64 p1, .slice A1 us.length c1] 26)).alloc (.cells #[.int .i64 0, .int .i64 0, .slice none 0 0] 26)).alloc (.cells #[.slice none 0 0, .slice none 0 0] 53)) (w.heap.size + 2) 53 #[.slice none 0 0, .slice none 0 0] := Bk.new3 w _ _ _ _

  by_cases z : ss.length ≤ 60
  · cases q2 : allB ss 1 60 with
    | false =>
      have hb : hmB k1 p1 us ss = false := by simp [hmB, q2]
      obtain ⟨e1, e2, e3, e4, e5⟩ := hm_no hb
      rw [e1, e2, e3, e4, e5, hb]
      clear e1 e2 e3 e4 e5 hb
      have zi : ¬ (60 : Int) < (ss.length : Int) := by omega
      have y0 := bK.cell 0
      have y1 := bK.cell 1
      have y2 := bK.cell 2
      have t0 := bZ.cell 0
      have t1 := bZ.cell 1
      have t2 := bZ.cell 2
      have s0 := bS.cell 0
      have s1 := bS.cell 1
      have f0 := bZ.frozen 0
      have f1 := bZ.frozen 1
      have f2 := bZ.frozen 2
      have g0 := bS.frozen 0
      have g1 := bS.frozen 1
      have hlS := bS.lt
      simp at y0 y1 y2 t0 t1 t2 s0 s1
      go_enter Tryz.func157, Tryz.ntmps157
      go_wp2_with (go_at_call 155; (with_reducible refine (scCont_v ss A2 c2 _ (((r2.alloc _).alloc _).alloc _) hl2 _ q2).mono ?_); rintro e w' ⟨rfl, rfl⟩)
      refine bodyPost_ret (v := .tuple #[.agg #[.int .i64 0, .int .i64 0, .slice none 0 0], .agg #[.slice none 0 0, .slice none 0 0], .bool false]) (by simp [results, Tryz.results157, go_sem, t0, t1, t2, s0, s1]) rfl ?_
      first | with_reducible exact HmRd.no rfl hB | exact HmRd.no rfl (set5 hB (by omega) (by omega) _ _ _ _ _)
    | true =>
      have zi : ¬ (60 : Int) < (ss.length : Int) := by omega
      cases q3 : ufB k1 p1 us (ss.length : Int) with
      | false =>
        have hb : hmB k1 p1 us ss = false := by simp [hmB, q3]
        obtain ⟨e1, e2, e3, e4, e5⟩ := hm_no hb
        rw [e1, e2, e3, e4, e5, hb]
        clear e1 e2 e3 e4 e5 hb
        have y0 := bK.cell 0
        have y1 := bK.cell 1
        have y2 := bK.cell 2
        have t0 := bZ.cell 0
        have t1 := bZ.cell 1
        have t2 := bZ.cell 2
        have s0 := bS.cell 0
        have s1 := bS.cell 1
        have f0 := bZ.frozen 0
        have f1 := bZ.frozen 1
        have f2 := bZ.frozen 2
        have g0 := bS.frozen 0
        have g1 := bS.frozen 1
        have hlS := bS.lt
        simp at y0 y1 y2 t0 t1 t2 s0 s1
        go_enter Tryz.func157, Tryz.ntmps157
        go_wp2_with (first | (go_at_call 155; (with_reducible refine (scCont_v ss A2 c2 _ (((r2.alloc _).alloc _).alloc _) hl2 _ q2).mono ?_); rintro e w' ⟨rfl, rfl⟩) | fail)
        (with_reducible refine (sUfl_no k1 p1 us A1 c1 (ss.length : Int) _ (((r1.alloc _).alloc _).alloc _) hl1 q3).mono ?_)
        rintro e w5 ⟨A5, c5, B5, d5, rfl, hb5⟩
        have s5 : w.heap.size + 3 ≤ w5.heap.size := by have := hb5.size; simpa using this
        have bZ5 := (bZ.st hb5).alloc (.cells #[.int .i64 0, .int .i64 0, .slice A5 0 c5] 26)
        have bS5 := (bS.st hb5).alloc (.cells #[.int .i64 0, .int .i64 0, .slice A5 0 c5] 26)
        have bK5 := (bK.st hb5).alloc (.cells #[.int .i64 0, .int .i64 0, .slice A5 0 c5] 26)
        have hB5 := (hB.trans (hb5.mono (by simp; omega))).alloc (by omega) (.cells #[.int .i64 0, .int .i64 0, .slice A5 0 c5] 26)
        clear y0 y1 y2 t0 t1 t2 s0 s1 f0 f1 f2 g0 g1 hlS
        have y0 := bK5.cell 0
        have y1 := bK5.cell 1
        have y2 := bK5.cell 2
        have t0 := bZ5.cell 0
        have t1 := bZ5.cell 1
        have t2 := bZ5.cell 2
        have s0 := bS5.cell 0
        have s1 := bS5.cell 1
        have f0 := bZ5.frozen 0
        have f1 := bZ5.frozen 1
        have f2 := bZ5.frozen 2
        have g0 := bS5.frozen 0
        have g1 := bS5.frozen 1
        have hlS := bS5.lt
        simp at y0 y1 y2 t0 t1 t2 s0 s1
        clear hB bK bZ bS hb5
        go_wp2_with fail
        refine bodyPost_ret (v := .tuple #[.agg #[.int .i64 0, .int .i64 0, .slice none 0 0], .agg #[.slice none 0 0, .slice none 0 0], .bool false]) (by simp [results, Tryz.results157, go_sem, t0, t1, t2, s0, s1]) rfl ?_
        first | with_reducible exact HmRd.no rfl hB5 | exact HmRd.no rfl (set5 hB5 (by omega) (by omega) _ _ _ _ _)
      | true =>
        have hb : hmB k1 p1 us ss = true := by simp [hmB, z, q2, q3]
        obtain ⟨e1, e2, e3, e4, e5⟩ := hm_yes hb
        rw [e1, e2, e3, e4, e5, hb]
        clear e1 e2 e3 e4 e5 hb
        have hfc := hm_facts z q2 q3
        generalize hP : ufP us (ufM (ss.length : Int)) = P at *
        generalize hL : ufU us (ufM (ss.length : Int)) = L at *
        obtain ⟨hk, hss, hpl, hp1, hp2, hpb⟩ := hfc
        have hnl := numsL_len k1 P
        have hsl := shL_len ss (numsL k1 P) 1 (by rw [hnl]; exact hp1)
        have hslH := Lib.hid hsl
        have hnle : ss.length ≤ (numsL k1 P).length := by rw [hnl]; exact hp1
        have hssH := Lib.hid hss
        have hpbH := Lib.hid hpb
        clear hnl hsl hss hpb
        have y0 := bK.cell 0
        have y1 := bK.cell 1
        have y2 := bK.cell 2
        have t0 := bZ.cell 0
        have t1 := bZ.cell 1
        have t2 := bZ.cell 2
        have s0 := bS.cell 0
        have s1 := bS.cell 1
        have f0 := bZ.frozen 0
        have f1 := bZ.frozen 1
        have f2 := bZ.frozen 2
        have g0 := bS.frozen 0
        have g1 := bS.frozen 1
        have hlS := bS.lt
        simp at y0 y1 y2 t0 t1 t2 s0 s1
        go_enter Tryz.func157, Tryz.ntmps157
        go_wp2_with (first | (go_at_call 155; (with_reducible refine (scCont_v ss A2 c2 _ (((r2.alloc _).alloc _).alloc _) hl2 _ q2).mono ?_); rintro e w' ⟨rfl, rfl⟩) | fail)
        (with_reducible refine (sUfl_yes k1 p1 us A1 c1 (ss.length : Int) _ (((r1.alloc _).alloc _).alloc _) hl1 q3 L P hL hP).mono ?_)
        rintro e w5 ⟨A5, c5, B5, d5, rfl, o1x, o2x, n1, n2, hb5⟩
        have o1 := o1x.mono (show w.heap.size + 3 ≤ _ by simp) (Nat.le_refl _)
        have o2 := o2x.mono (show w.heap.size + 3 ≤ _ by simp) (Nat.le_refl _)
        clear o1x o2x
        have s5 : w.heap.size + 3 ≤ w5.heap.size := by have := hb5.size; simpa using this
        have bN := Bk.new w5 26 #[.int .i64 k1, .int .i64 p1, .slice A5 L.length c5]
        have bZ5 := (bZ.st hb5).alloc (.cells #[.int .i64 k1, .int .i64 p1, .slice A5 L.length c5] 26)
        have bS5 := (bS.st hb5).alloc (.cells #[.int .i64 k1, .int .i64 p1, .slice A5 L.length c5] 26)
        have bK5 := (bK.st hb5).alloc (.cells #[.int .i64 k1, .int .i64 p1, .slice A5 L.length c5] 26)
        have hB5 := (hB.trans (hb5.mono (by simp; omega))).alloc (by omega) (.cells #[.int .i64 k1, .int .i64 p1, .slice A5 L.length c5] 26)
        have r25 := ((((r2.alloc (.cells #[.int .i64 k1, .int .i64 p1, .slice A1 us.length c1] 26)).alloc (.cells #[.int .i64 0, .int .i64 0, .slice none 0 0] 26)).alloc (.cells #[.slice none 0 0, .slice none 0 0] 53)).st hb5).alloc (.cells #[.int .i64 k1, .int .i64 p1, .slice A5 L.length c5] 26)
        have o15 := o1.alloc (.cells #[.int .i64 k1, .int .i64 p1, .slice A5 L.length c5] 26)
        have o25 := o2.alloc (.cells #[.int .i64 k1, .int .i64 p1, .slice A5 L.length c5] 26)
        obtain ⟨W, hW⟩ : ∃ W, W = w5.alloc (.cells #[.int .i64 k1, .int .i64 p1, .slice A5 L.length c5] 26) := ⟨_, rfl⟩
        have sW : W.heap.size = w5.heap.size + 1 := by rw [hW]; simp
        rw [← hW] at bN bZ5 bS5 bK5 hB5 r25 o15 o25
        clear y0 y1 y2 t0 t1 t2 s0 s1 f0 f1 f2 g0 g1 hlS
        have y0 := bK5.cell 0
        have y1 := bK5.cell 1
        have y2 := bK5.cell 2
        have t0 := bZ5.cell 0
        have t1 := bZ5.cell 1
        have t2 := bZ5.cell 2
        have s0 := bS5.cell 0
        have s1 := bS5.cell 1
        have f0 := bZ5.frozen 0
        have f1 := bZ5.frozen 1
        have f2 := bZ5.frozen 2
        have g0 := bS5.frozen 0
        have g1 := bS5.frozen 1
        have hlS := bS5.lt
        simp at y0 y1 y2 t0 t1 t2 s0 s1
        have m0 := bN.cell 0
        have m1 := bN.cell 1
        have m2 := bN.cell 2
        simp at m0 m1 m2
        clear hB bK bZ bS hb5 o1 o2 r2 r1
        go_wp2_with fail
        rw [← hW]
        clear hW
        have sWl : w5.heap.size < W.heap.size := by omega
        have ne1 : ¬ w5.heap.size = w.heap.size + 1 := by omega
        have ne2 : ¬ w5.heap.size = w.heap.size + 2 := by omega
        have sWH := Lib.hid sW
        clear sW
        go_region_held3 (fun w' => w'.cell? ⟨w.heap.size, 0, none⟩ = some (.int .i64 k1) ∧ w'.cell? ⟨w.heap.size, 1, none⟩ = some (.int .i64 p1) ∧ w'.cell? ⟨w.heap.size, 2, none⟩ = some (.slice A1 us.length c1) ∧ w'.cell? ⟨w5.heap.size, 0, none⟩ = some (.int .i64 k1) ∧ w'.cell? ⟨w5.heap.size, 1, none⟩ = some (.int .i64 p1) ∧ w'.cell? ⟨w5.heap.size, 2, none⟩ = some (.slice A5 L.length c5))
          (((try go_split_ands); (try dsimp only); (repeat' apply And.intro) <;> (first | with_reducible assumption | with_reducible exact cell_far3 (by omega) (by with_reducible assumption) | with_reducible exact cell_far2 (by omega) (by with_reducible assumption) | ((with_reducible refine (hc8 _ _ ?_).trans ?_) <;> first | with_reducible assumption | omega | (simp <;> omega)) | go_keep)))
          (first | (go_at_call 188; ((with_reducible refine (scAll_any k1 p1 us A1 c1 P B5 d5 ss A2 c2 1 _ o25.drew r25.drew hk hpbH.out hssH.out (by omega) hp2 hp1 hcap (.inl rfl)).mono ?_); rintro e w8 ⟨A8, c8, rfl, o8, hb8⟩; (have s8 : w5.heap.size + 1 ≤ w8.heap.size := by have := hb8.size; have := sWH.out; simp at *; omega); (have hc8 := (bcell hb8).1); (have hf8 := (bcell hb8).2); (have t0_8 := (hc8 _ _ (by first | omega | (simp <;> omega))).trans t0); (have t1_8 := (hc8 _ _ (by first | omega | (simp <;> omega))).trans t1); (have t2_8 := (hc8 _ _ (by first | omega | (simp <;> omega))).trans t2); (have s0_8 := (hc8 _ _ (by first | omega | (simp <;> omega))).trans s0); (have s1_8 := (hc8 _ _ (by first | omega | (simp <;> omega))).trans s1); (have f0_8 := (hf8 _ _ (by first | omega | (simp <;> omega))).trans f0); (have f1_8 := (hf8 _ _ (by first | omega | (simp <;> omega))).trans f1); (have f2_8 := (hf8 _ _ (by first | omega | (simp <;> omega))).trans f2); (have g0_8 := (hf8 _ _ (by first | omega | (simp <;> omega))).trans g0); (have g1_8 := (hf8 _ _ (by first | omega | (simp <;> omega))).trans g1); (have o18 := (o15.drew).st hb8); (have o28 := (o25.drew).st hb8); (have hB8 := (hB5.drew).trans (hb8.mono (by have := sWH.out; simp; omega))))))
        clear t0 t1 t2 s0 s1 f0 f1 f2 g0 g1 y0 y1 y2 m0 m1 m2
        have q1 := Lib.hid (Rd.set5 (g := w.heap.size + 1) (g' := w.heap.size + 2) o18 (by omega) (by omega) (.int .i64 k1) (.int .i64 p1) (.slice A5 L.length c5) (.slice B5 P.length d5) (.slice A8 (shL ss (numsL k1 P) 1).length c8)).std
        have q2' := Lib.hid (Rd.set5 (g := w.heap.size + 1) (g' := w.heap.size + 2) o28 (by omega) (by omega) (.int .i64 k1) (.int .i64 p1) (.slice A5 L.length c5) (.slice B5 P.length d5) (.slice A8 (shL ss (numsL k1 P) 1).length c8)).std
        have q3' := Lib.hid (Rd.set5 (g := w.heap.size + 1) (g' := w.heap.size + 2) (show Rd w8 W.heap.size w8.heap.size _ _ from o8.rd') (by omega) (by omega) (.int .i64 k1) (.int .i64 p1) (.slice A5 L.length c5) (.slice B5 P.length d5) (.slice A8 (shL ss (numsL k1 P) 1).length c8)).std
        have hBH := Lib.hid (set5 (g := w.heap.size + 1) (g' := w.heap.size + 2) hB8 (by omega) (by omega) (.int .i64 k1) (.int .i64 p1) (.slice A5 L.length c5) (.slice B5 P.length d5) (.slice A8 (shL ss (numsL k1 P) 1).length c8))
        go_wp2_with fail
        refine bodyPost_ret (v := .tuple #[.agg #[.int .i64 k1, .int .i64 p1, .slice A5 L.length c5], .agg #[.slice B5 P.length d5, .slice A8 (shL ss (numsL k1 P) 1).length c8], .bool true]) (by simp [results, Tryz.results157, go_sem, t0_8, t1_8, t2_8, s0_8, s1_8]) rfl ?_
        exact ⟨_, _, _, _, _, _, rfl, q1.out, q2'.out, q3'.out, n1, n2, by rw [hslH.out]; omega, hBH.out⟩
  · have hb : hmB k1 p1 us ss = false := by simp [hmB, z]
    obtain ⟨e1, e2, e3, e4, e5⟩ := hm_no hb
    rw [e1, e2, e3, e4, e5, hb]
    clear e1 e2 e3 e4 e5 hb
    have zi : (60 : Int) < (ss.length : Int) := by omega
    have y0 := bK.cell 0
    have y1 := bK.cell 1
    have y2 := bK.cell 2
    have t0 := bZ.cell 0
    have t1 := bZ.cell 1
    have t2 := bZ.cell 2
    have s0 := bS.cell 0
    have s1 := bS.cell 1
    have f0 := bZ.frozen 0
    have f1 := bZ.frozen 1
    have f2 := bZ.frozen 2
    have g0 := bS.frozen 0
    have g1 := bS.frozen 1
    have hlS := bS.lt
    simp at y0 y1 y2 t0 t1 t2 s0 s1
    go_enter Tryz.func157, Tryz.ntmps157
    go_wp2
    refine bodyPost_ret (v := .tuple #[.agg #[.int .i64 0, .int .i64 0, .slice none 0 0], .agg #[.slice none 0 0, .slice none 0 0], .bool false]) (by simp [results, Tryz.results157, go_sem, t0, t1, t2, s0, s1]) rfl ?_
    first | with_reducible exact HmRd.no rfl hB | exact HmRd.no rfl (set5 hB (by omega) (by omega) _ _ _ _ _)
end Go.Proofs.YtjhbffndiaggmaaGreatDoor

/-
  Contracts of ReceiveSecret, in the program and in the reference. The conditions are bounds on lengths, and that there is room for what is read.
-/
namespace Go.Proofs.YtjhbffndiaggmaaGreatDoor
open Go.RowKit Go.ChangeShapes Go.WideShapes
set_option linter.unusedVariables false
set_option linter.unusedSimpArgs false

theorem set3 {B g : Nat} {w w' : World} (h : Below B w w') (h1 : B ≤ g) (a b c : Value) : Below B w (((w'.setCell ⟨g, 0, none⟩ a).setCell ⟨g, 1, none⟩ b).setCell ⟨g, 2, none⟩ c) :=
  ((h.setCell (p := ⟨g, 0, none⟩) h1 a).setCell (p := ⟨g, 1, none⟩) h1 b).setCell (p := ⟨g, 2, none⟩) h1 c
theorem Own.st3 {lo hi g : Nat} {w : World} {v : Value} {zs : List Int} (h : Own w lo hi v zs) (h1 : g < lo ∨ hi ≤ g) (a b c : Value) : Own (((w.setCell ⟨g, 0, none⟩ a).setCell ⟨g, 1, none⟩ b).setCell ⟨g, 2, none⟩ c) lo hi v zs :=
  ((h.setCell (p := ⟨g, 0, none⟩) h1 a).setCell (p := ⟨g, 1, none⟩) h1 b).setCell (p := ⟨g, 2, none⟩) h1 c
theorem Rd.st3 {lo hi g : Nat} {w : World} {A : Option Addr} {zs : List Int} (h : Rd w lo hi A zs) (h1 : hi ≤ g ∨ g < lo) (a b c : Value) : Rd (((w.setCell ⟨g, 0, none⟩ a).setCell ⟨g, 1, none⟩ b).setCell ⟨g, 2, none⟩ c) lo hi A zs :=
  ((h.store (p := ⟨g, 0, none⟩) h1 a).store (p := ⟨g, 1, none⟩) h1 b).store (p := ⟨g, 2, none⟩) h1 c
theorem Bk.far3 {w : World} {g g' : Nat} {t : TypeId} {cs : Array Value} (h : Bk w g t cs) (h1 : g ≠ g') (a b c : Value) : Bk (((w.setCell ⟨g', 0, none⟩ a).setCell ⟨g', 1, none⟩ b).setCell ⟨g', 2, none⟩ c) g t cs :=
  ((h.far (p := ⟨g', 0, none⟩) h1 a).far (p := ⟨g', 1, none⟩) h1 b).far (p := ⟨g', 2, none⟩) h1 c
theorem size_st3 (w : World) (g : Nat) (a b c : Value) : (((w.setCell ⟨g, 0, none⟩ a).setCell ⟨g, 1, none⟩ b).setCell ⟨g, 2, none⟩ c).heap.size = w.heap.size := by simp only [size_setCell]
theorem os_part {k1 p1 : Int} {us y z : List Int} (h : osB k1 p1 us y z = true) : kbB k1 p1 us = true ∧ y.Nodup ∧ (∀ k (_ : k < y.length), 0 ≤ y[k] ∧ y[k] ≤ p1 - 1) ∧ y.length ≤ 60 ∧ us.length ≤ 60 := by
  simp only [osB, Bool.and_eq_true] at h
  have h2 := h.2.1
  simp only [scB, Bool.and_eq_true, decide_eq_true_eq] at h2
  have h3 := allB_iff.1 h.2.2
  have h4 := kb_len h.1
  have h5 := (kb_facts h.1).2.1
  refine ⟨h.1, h2.2.2.2.2, h3, ?_, by omega⟩
  have := h2.2.2.1
  simp only [ndP] at this
  omega
theorem iUp_no (k1 p1 : Int) (z1 : List Int) (A1 : Option Addr) (c1 : Nat) (page : Int) {l h : Nat} (w : World) (ho0 : Own w l h (.slice A1 z1.length c1) z1) (hl : z1.length ≤ 1048576) (hb : upB k1 p1 z1 page = false) :
    Calls Tryz.prog 17 #[.agg #[.int .i64 k1, .int .i64 p1, .slice A1 z1.length c1], .int .i64 page] w fun e w' => ∃ A c, e = .returned (.tuple #[.agg #[.int .i64 0, .int .i64 0, .slice A 0 c], .bool false]) ∧ Below w.heap.size w w' := by
  refine (iUsePage_any k1 p1 z1 A1 c1 page w ho0 hl).mono fun e w' h => ?_
  obtain ⟨h1, h2, h3⟩ := up_no hb
  rw [h1, h2, h3, hb] at h
  obtain ⟨A, c, rfl, _, _, hB⟩ := h
  exact ⟨A, c, rfl, hB⟩
theorem iUp_yes (k1 p1 : Int) (z1 : List Int) (A1 : Option Addr) (c1 : Nat) (page : Int) {l h : Nat} (w : World) (ho0 : Own w l h (.slice A1 z1.length c1) z1) (hl : z1.length ≤ 1048576) (hb : upB k1 p1 z1 page = true) (L : List Int) (hL : putL z1 page = L) :
    Calls Tryz.prog 17 #[.agg #[.int .i64 k1, .int .i64 p1, .slice A1 z1.length c1], .int .i64 page] w fun e w' => ∃ A c, e = .returned (.tuple #[.agg #[.int .i64 k1, .int .i64 p1, .slice A L.length c], .bool true]) ∧ Own w' w.heap.size w'.heap.size (.slice A L.length c) L ∧ Below w.heap.size w w' := by
  refine (iUsePage_any k1 p1 z1 A1 c1 page w ho0 hl).mono fun e w' h => ?_
  obtain ⟨h1, h2, h3⟩ := up_yes hb
  rw [h1, h2, h3, hb, hL] at h
  obtain ⟨A, c, rfl, ho, _, hB⟩ := h
  exact ⟨A, c, rfl, ho, hB⟩
theorem l1Put_L (zs : List Int) (A : Option Addr) (c : Nat) (n : Int) {l h : Nat} (w : World) (hr0 : Rd w l h A zs) (hl : zs.length ≤ 1048576) (hcap : zs.length ≤ c) (hc2 : c ≤ 9223372036854775807) (hA : (A = none ∧ c = 0) ∨ ∃ b off, A = some ⟨b, off, none⟩) (L : List Int) (hL : putL zs n = L) :
    Calls Tryz.prog 95 #[.slice A zs.length c, .int .i64 n] w fun e w' => ∃ A' c' l' h', e = .returned (.slice A' L.length c') ∧ Rd w' l' h' A' L ∧ ((l' = l ∧ h' = h) ∨ (l' = w.heap.size ∧ h' = w'.heap.size)) ∧ L.length ≤ c' ∧ c' ≤ 9223372036854775807 ∧ (∃ b off, A' = some ⟨b, off, none⟩) ∧ Below w.heap.size w w' := by
  subst hL
  have hpos : 0 < (putL zs n).length := List.length_pos_of_mem (putL_mem.2 (.inr rfl))
  refine (l1Put_any zs A c n w hr0 hl hcap hc2 hA).mono fun e w' h => ?_
  obtain ⟨A', c', l', h', he, q, hor, a1, a2, hb⟩ := h
  obtain ⟨b, off, hA', _⟩ := q hpos
  rcases hor with hor | hor
  · exact ⟨A', c', l', h', he, q, .inl hor, a1, a2, ⟨b, off, hA'⟩, hb⟩
  · exact ⟨A', c', l', w'.heap.size, he, q.hi, .inr ⟨hor, rfl⟩, a1, a2, ⟨b, off, hA'⟩, hb⟩


end Go.Proofs.YtjhbffndiaggmaaGreatDoor
