/-
  Contracts of MergeKeyBooks, in the program and in the reference. The conditions are bounds on lengths.
-/
import Derived.Test.YtjhbffndiaggmaaGreatDoorBKB37
import Derived.Test.YtjhbffndiaggmaaGreatDoorZKBCompact
import Derived.Test.YtjhbffndiaggmaaGreatDoorZKBConcat
namespace Go.Proofs.YtjhbffndiaggmaaGreatDoor
open Go.RowKit Go.ChangeShapes Go.WideShapes
set_option linter.unusedVariables false
set_option linter.unusedSimpArgs false

theorem putM_eq {z1 z2 : List Int} (h : z1.Pairwise (· < ·)) : dedL (z1 ++ z2) = putM z1 z2 := by
  have e1 : dedL z1 = z1 := by
    have := foldl_put (l := z1) (s := []) List.Pairwise.nil
    exact sorted_ext this.1 h fun x => (this.2 x).trans (by simp)
  unfold dedL at e1 ⊢
  rw [List.foldl_append, e1]; rfl
theorem merge_eq {k1 p1 : Int} {z1 z2 : List Int} (h : kbB k1 p1 z1 = true) : Lib.compact (srtL (z1 ++ z2)) = putM z1 z2 := by
  rw [compact_sort, putM_eq (kb_facts h).2.2.1]
theorem kp_parts {k1 p1 : Int} {z1 : List Int} {k2 p2 : Int} {z2 : List Int} (h : kpB k1 p1 z1 k2 p2 z2 = true) : kbB k1 p1 z1 = true ∧ kbB k2 p2 z2 = true := by
  simp only [kpB, Bool.and_eq_true] at h
  first | exact ⟨h.1.1, h.1.2⟩ | exact ⟨h.1.1.1, h.1.1.2⟩ | exact ⟨h.1, h.2.1⟩
theorem kb_sixty {k1 p1 : Int} {z1 : List Int} (h : kbB k1 p1 z1 = true) : z1.length ≤ 60 := by
  have h4 := kb_len h
  have h5 := (kb_facts h).2.1
  omega
theorem sameBook_v (k1 p1 : Int) (z1 : List Int) (A1 : Option Addr) (c1 : Nat) (k2 p2 : Int) (z2 : List Int) (A2 : Option Addr) (c2 : Nat) {l1 h1 l2 h2 : Nat} (w : World) (hr1 : Rd w l1 h1 A1 z1) (hr2 : Rd w l2 h2 A2 z2) (hl1 : z1.length ≤ 1048576) (hl2 : z2.length ≤ 1048576) (b : Bool) (hb : kpB k1 p1 z1 k2 p2 z2 = b) :
    Calls Tryz.prog 89 #[.agg #[.int .i64 k1, .int .i64 p1, .slice A1 z1.length c1], .agg #[.int .i64 k2, .int .i64 p2, .slice A2 z2.length c2]] w fun e w' => e = .returned (.bool b) ∧ Below w.heap.size w w' := by
  subst hb; exact sameBook_any k1 p1 z1 A1 c1 k2 p2 z2 A2 c2 w hr1 hr2 hl1 hl2
theorem kyPair_v (k1 p1 : Int) (z1 : List Int) (A1 : Option Addr) (c1 : Nat) (k2 p2 : Int) (z2 : List Int) (A2 : Option Addr) (c2 : Nat) {l1 h1 l2 h2 : Nat} (w : World) (hr1 : Rd w l1 h1 A1 z1) (hr2 : Rd w l2 h2 A2 z2) (hl1 : z1.length ≤ 1048576) (hl2 : z2.length ≤ 1048576) (b : Bool) (hb : kpB k1 p1 z1 k2 p2 z2 = b) :
    Calls Tryz.prog 93 #[.agg #[.int .i64 k1, .int .i64 p1, .slice A1 z1.length c1], .agg #[.int .i64 k2, .int .i64 p2, .slice A2 z2.length c2]] w fun e w' => e = .returned (.bool b) ∧ Below w.heap.size w w' := by
  subst hb; exact kyPair_any k1 p1 z1 A1 c1 k2 p2 z2 A2 c2 w hr1 hr2 hl1 hl2
/-- a key book and a bool; its pages in memory of the call's own -/
def KbOwn (k p : Int) (L : List Int) (b : Bool) (w : World) (e : Ending) (w' : World) : Prop :=
  ∃ A c, e = .returned (.tuple #[.agg #[.int .i64 k, .int .i64 p, .slice A L.length c], .bool b]) ∧ Own w' w.heap.size w'.heap.size (.slice A L.length c) L ∧ L.length ≤ 1048576 ∧ Below w.heap.size w w'
def KbRd (k p : Int) (L : List Int) (b : Bool) (w : World) (e : Ending) (w' : World) : Prop :=
  ∃ A c, e = .returned (.tuple #[.agg #[.int .i64 k, .int .i64 p, .slice A L.length c], .bool b]) ∧ Rd w' w.heap.size w'.heap.size A L ∧ L.length ≤ 1048576 ∧ Below w.heap.size w w'
theorem KbOwn.no {w w' : World} {e : Ending} (he : e = .returned (.tuple #[.agg #[.int .i64 0, .int .i64 0, .slice none 0 0], .bool false])) (hB : Below w.heap.size w w') : KbOwn 0 0 [] false w e w' := ⟨none, 0, he, Own.nil, by simp, hB⟩
theorem KbRd.no {w w' : World} {e : Ending} (he : e = .returned (.tuple #[.agg #[.int .i64 0, .int .i64 0, .slice none 0 0], .bool false])) (hB : Below w.heap.size w w') : KbRd 0 0 [] false w e w' := ⟨none, 0, he, Rd.nil, by simp, hB⟩

set_option maxHeartbeats 4000000 in
theorem iMergeKeyBooks_any (k1 p1 : Int) (z1 : List Int) (A1 : Option Addr) (c1 : Nat) (k2 p2 : Int) (z2 : List Int) (A2 : Option Addr) (c2 : Nat) {l1 h1 l2 h2 : Nat} (w : World) (r10 : Rd w l1 h1 A1 z1) (r20 : Rd w l2 h2 A2 z2) (hl1 : z1.length ≤ 1048576) (hl2 : z2.length ≤ 1048576) :
    Calls Tryz.prog 20 #[.agg #[.int .i64 k1, .int .i64 p1, .slice A1 z1.length c1], .agg #[.int .i64 k2, .int .i64 p2, .slice A2 z2.length c2]] w (KbOwn (mbK k1 p1 z1 k2 p2 z2) (mbG k1 p1 z1 k2 p2 z2) (mbL k1 p1 z1 k2 p2 z2) (kpB k1 p1 z1 k2 p2 z2) w) := by
  have r1 := r10.std
  have r2 := r20.std
  clear r10 r20
  have hB : Below w.heap.size w (((w.alloc (.cells #[.int .i64 k1, .int .i64 p1, .slice A1 z1.length c1] 26)).alloc (.cells #[.int .i64 k2, .int .i64 p2, .slice A2 z2.length c2] 26)).alloc (.cells #[.int .i64 0, .int .i64 0, .slice none 0 0] 26)) := (((Below.refl _ _).alloc (Nat.le_refl _) _).alloc (by simp) _).alloc (by simp; omega) _
  have bK : Bk (((w.alloc (.cells #[.int .i64 k1, .int .i64 p1, .slice A1 z1.length c1] 26)).alloc (.cells #[.int .i64 k2, .int .i64 p2, .slice A2 z2.length c2] 26)).alloc (.cells #[.int .i64 0, .int .i64 0, .slice none 0 0] 26)) w.heap.size 26 #[.int .i64 k1, .int .i64 p1, .slice A1 z1.length c1] := ((Bk.new w _ _).alloc _).alloc _
  have bX : Bk (((w.alloc (.cells #[.int .i64 k1, .int .i64 p1, .slice A1 z1.length c1] 26)).alloc (.cells #[.int .i64 k2, .int .i64 p2, .slice A2 z2.length c2] 26)).alloc (.cells #[.int .i64 0, .int .i64 0, .slice none 0 0] 26)) (w.heap.size + 1) 26 #[.int .i64 k2, .int .i64 p2, .slice A2 z2.length c2] := (Bk.new2 w _ _ _).alloc _
  have bZ : Bk (((w.alloc (.cells #[.int .i64 k1, .int .i64 p1, .slice A1 z1.length c1] 26)).alloc (.cells #[.int .i64 k2, .int .i64 p2, .slice A2 z2.length c2] 26)).alloc (.cells #[.int .i64 0, .int .i64 0, .slice none 0 0] 26)) (w.heap.size + 2) 26 #[.int .i64 0, .int .i64 0, .slice none 0 0] := Bk.new3 w _ _ _ _
  have r1a : Rd (((w.alloc (.cells #[.int .i64 k1, .int .i64 p1, .slice A1 z1.length c1] 26)).alloc (.cells #[.int .i64 k2, .int .i64 p2, .slice A2 z2.length c2] 26)).alloc (.cells #[.int .i64 0, .int .i64 0, .slice none 0 0] 26)) 0 w.heap.size A1 z1 := ((r1.alloc _).alloc _).alloc _
  have r2a : Rd (((w.alloc (.cells #[.int .i64 k1, .int .i64 p1, .slice A1 z1.length c1] 26)).alloc (.cells #[.int .i64 k2, .int .i64 p2, .slice A2 z2.length c2] 26)).alloc (.cells #[.int .i64 0, .int .i64 0, .slice none 0 0] 26)) 0 w.heap.size A2 z2 := ((r2.alloc _).alloc _).alloc _
  cases q : kpB k1 p1 z1 k2 p2 z2 with
  | false =>
    obtain ⟨e1, e2, e3⟩ := mb_no q
    rw [e1, e2, e3]
    clear e1 e2 e3
    have y0 := bK.cell 0
    have y1 := bK.cell 1
    have y2 := bK.cell 2
    have x0 := bX.cell 0
    have x1 := bX.cell 1
    have x2 := bX.cell 2
    have t0 := bZ.cell 0
    have t1 := bZ.cell 1
    have t2 := bZ.cell 2
    have f0 := bZ.frozen 0
    have f1 := bZ.frozen 1
    have f2 := bZ.frozen 2
    simp at y0 y1 y2 x0 x1 x2 t0 t1 t2
    go_enter Tryz.func20, Tryz.ntmps20
    go_wp2_with fail
    (with_reducible refine (sameBook_v k1 p1 z1 A1 c1 k2 p2 z2 A2 c2 _ r1a r2a hl1 hl2 _ q).mono ?_)
    rintro e w1 ⟨rfl, hb1⟩
    have s1 : w.heap.size + 3 ≤ w1.heap.size := by have := hb1.size; simpa using this
    have bK1 := bK.st hb1
    have bX1 := bX.st hb1
    have bZ1 := bZ.st hb1
    have hB1 := hB.trans (hb1.mono (by simp; omega))
    have r11 := r1a.st hb1
    have r21 := r2a.st hb1
    clear bK bX bZ hB hb1 r1 r2 r1a r2a
    clear y0 y1 y2 x0 x1 x2 t0 t1 t2 f0 f1 f2
    have y0 := bK1.cell 0
    have y1 := bK1.cell 1
    have y2 := bK1.cell 2
    have x0 := bX1.cell 0
    have x1 := bX1.cell 1
    have x2 := bX1.cell 2
    have t0 := bZ1.cell 0
    have t1 := bZ1.cell 1
    have t2 := bZ1.cell 2
    have f0 := bZ1.frozen 0
    have f1 := bZ1.frozen 1
    have f2 := bZ1.frozen 2
    simp at y0 y1 y2 x0 x1 x2 t0 t1 t2
    go_wp2_with fail
    refine bodyPost_ret (v := .tuple #[.agg #[.int .i64 0, .int .i64 0, .slice none 0 0], .bool false]) (by simp [results, Tryz.results20, go_sem, t0, t1, t2]) rfl ?_
    first | with_reducible exact KbOwn.no rfl hB1 | exact KbOwn.no rfl (set3 hB1 (by omega) _ _ _)
  | true =>
    obtain ⟨hk1, hk2⟩ := kp_parts q
    have n1 := kb_sixty hk1
    have n2 := kb_sixty hk2
    obtain ⟨M, hM⟩ : ∃ M, putM z1 z2 = M := ⟨_, rfl⟩
    have hmrg := Lib.hid ((merge_eq (z2 := z2) hk1).trans hM)
    obtain ⟨e1, e2, e3⟩ := mb_yes q
    have hLl := putM_len z1 z2
    rw [e1, e2, e3, hM]
    rw [hM] at hLl
    clear e1 e2 e3 hk1 hk2 hM
    have y0 := bK.cell 0
    have y1 := bK.cell 1
    have y2 := bK.cell 2
    have x0 := bX.cell 0
    have x1 := bX.cell 1
    have x2 := bX.cell 2
    have t0 := bZ.cell 0
    have t1 := bZ.cell 1
    have t2 := bZ.cell 2
    have f0 := bZ.frozen 0
    have f1 := bZ.frozen 1
    have f2 := bZ.frozen 2
    simp at y0 y1 y2 x0 x1 x2 t0 t1 t2
    go_enter Tryz.func20, Tryz.ntmps20
    go_wp2_with fail
    (with_reducible refine (sameBook_v k1 p1 z1 A1 c1 k2 p2 z2 A2 c2 _ r1a r2a hl1 hl2 _ q).mono ?_)
    rintro e w1 ⟨rfl, hb1⟩
    have s1 : w.heap.size + 3 ≤ w1.heap.size := by have := hb1.size; simpa using this
    have bK1 := bK.st hb1
    have bX1 := bX.st hb1
    have bZ1 := bZ.st hb1
    have hB1 := hB.trans (hb1.mono (by simp; omega))
    have r11 := r1a.st hb1
    have r21 := r2a.st hb1
    clear bK bX bZ hB hb1 r1 r2 r1a r2a
    clear y0 y1 y2 x0 x1 x2 t0 t1 t2 f0 f1 f2
    have y0 := bK1.cell 0
    have y1 := bK1.cell 1
    have y2 := bK1.cell 2
    have x0 := bX1.cell 0
    have x1 := bX1.cell 1
    have x2 := bX1.cell 2
    have t0 := bZ1.cell 0
    have t1 := bZ1.cell 1
    have t2 := bZ1.cell 2
    have f0 := bZ1.frozen 0
    have f1 := bZ1.frozen 1
    have f2 := bZ1.frozen 2
    simp at y0 y1 y2 x0 x1 x2 t0 t1 t2
    have hlw1 : w.heap.size < w1.heap.size := by omega
    have bl := Bk.new w1 24 #[.slice A1 z1.length c1, .slice A2 z2.length c2]
    have m0 : (w1.alloc (.cells #[.slice A1 z1.length c1, .slice A2 z2.length c2] 24)).cell? ⟨w1.heap.size, 0, none⟩ = some (.slice A1 z1.length c1) := bl.cell 0
    have m1 : (w1.alloc (.cells #[.slice A1 z1.length c1, .slice A2 z2.length c2] 24)).cell? ⟨w1.heap.size, 1, none⟩ = some (.slice A2 z2.length c2) := bl.cell 1
    have m0H := Lib.hid m0
    have m1H := Lib.hid m1
    clear bl m0 m1
    go_wp2_with fail
    (with_reducible refine (Concat_two z1 z2 A1 A2 c1 c2 w1.heap.size _ (r11.alloc _) (r21.alloc _) m0H.out m1H.out (by omega) (by omega)).mono ?_)
    rintro e w2 ⟨v2, rfl, o2, hb2⟩
    have s2 : w1.heap.size + 1 ≤ w2.heap.size := by have := hb2.size; simpa using this
    have bK2 := (bK1.alloc (.cells #[.slice A1 z1.length c1, .slice A2 z2.length c2] 24)).st hb2
    have bX2 := (bX1.alloc (.cells #[.slice A1 z1.length c1, .slice A2 z2.length c2] 24)).st hb2
    have bZ2 := (bZ1.alloc (.cells #[.slice A1 z1.length c1, .slice A2 z2.length c2] 24)).st hb2
    have hB2 := (hB1.alloc (by omega) (.cells #[.slice A1 z1.length c1, .slice A2 z2.length c2] 24)).trans (hb2.mono (by simp; omega))
    have esz : (w1.alloc (.cells #[.slice A1 z1.length c1, .slice A2 z2.length c2] 24)).heap.size = w1.heap.size + 1 := by simp
    rw [esz] at o2
    have hL : (z1 ++ z2).length ≤ 120 := by simp; omega
    obtain ⟨Z, hZ⟩ : ∃ Z, z1 ++ z2 = Z := ⟨_, rfl⟩
    rw [hZ] at o2 hmrg hL
    obtain ⟨A3, c3, rfl, _, _⟩ := o2.rd
    clear hZ hb2 bK1 bX1 bZ1 hB1 r11 r21 esz y0 y1 y2 x0 x1 x2 t0 t1 t2 f0 f1 f2
    go_wp2_with fail
    (with_reducible refine (Sort_u Z A3 Z.length c3 _ rfl o2 (by omega)).mono ?_)
    rintro e w3 ⟨rfl, o3, f3⟩
    have s3 := f3.size
    have bK3 := bK2.fr f3 (by omega)
    have bX3 := bX2.fr f3 (by omega)
    have bZ3 := bZ2.fr f3 (by omega)
    have hB3 := hB2.trans (f3.below (by omega) (by omega) : Below w.heap.size w2 w3)
    clear bK2 bX2 bZ2 hB2 o2 f3
    have hsl : Z.length = (srtL Z).length := (srt_len _).symm
    have y0 := bK3.cell 0
    have y1 := bK3.cell 1
    have y2 := bK3.cell 2
    have t0 := bZ3.cell 0
    have t1 := bZ3.cell 1
    have t2 := bZ3.cell 2
    have f0 := bZ3.frozen 0
    have f1 := bZ3.frozen 1
    have f2 := bZ3.frozen 2
    simp at y0 y1 y2 t0 t1 t2
    have lw3 : w.heap.size < w3.heap.size := by omega
    have hcH := hmrg
    have hslH := Lib.hid hsl
    clear hsl
    go_wp2_with fail
    go_region_held3 (fun w' => w'.cell? ⟨w.heap.size, 0, none⟩ = some (.int .i64 k1) ∧ w'.cell? ⟨w.heap.size, 1, none⟩ = some (.int .i64 p1) ∧ w'.cell? ⟨w.heap.size, 2, none⟩ = some (.slice A1 z1.length c1))
      (((try go_split_ands); (try dsimp only); (repeat' apply And.intro) <;> (first | with_reducible assumption | with_reducible exact cell_far3 (by omega) (by with_reducible assumption) | with_reducible exact cell_far2 (by omega) (by with_reducible assumption) | ((with_reducible refine (World.cell?_alloc_lt _ _ _ ?_).trans ?_) <;> first | with_reducible assumption | omega | (simp <;> omega)) | ((with_reducible refine (hc4 _ _ ?_).trans ?_) <;> first | with_reducible assumption | omega | (simp <;> omega)) | go_keep)))
      (first
        | (go_at_call 92; ((with_reducible refine (Compact_u (srtL Z) A3 Z.length c3 _ hslH.out o3.drew (by omega) M hcH.out).mono ?_); rintro e w4 ⟨rfl, o4, f4⟩; (have s4 : w3.heap.size ≤ w4.heap.size := f4.size); (have hc4 : ∀ b o, b < w1.heap.size → w4.cell? ⟨b, o, none⟩ = w3.drew.cell? ⟨b, o, none⟩ := fun b o h => World.cell?_of_block (w := w3.drew) (f4.block b (by show b < w3.heap.size; omega) (by omega))); (have bK4 := (bK3.drew).fr f4 (by omega)); (have bZ4 := (bZ3.drew).fr f4 (by omega)); (have y0_4 := bK4.cell 0); (have y1_4 := bK4.cell 1); (have y2_4 := bK4.cell 2); (have t0_4 := bZ4.cell 0); (have t1_4 := bZ4.cell 1); (have t2_4 := bZ4.cell 2); (have f0_4 := bZ4.frozen 0); (have f1_4 := bZ4.frozen 1); (have f2_4 := bZ4.frozen 2); (simp at y0_4 y1_4 y2_4 t0_4 t1_4 t2_4); (have hB4 := (hB3.drew).trans (f4.below (by omega) (by show w.heap.size ≤ w3.heap.size; omega) : Below w.heap.size w3.drew w4)))))
    have o4x := Lib.hid (Own.st3 (g := w.heap.size + 2) o4 (by omega) (.int .i64 k1) (.int .i64 p1) (.slice A3 M.length c3))
    have hBx := Lib.hid (set3 hB4 (show w.heap.size ≤ w.heap.size + 2 by omega) (.int .i64 k1) (.int .i64 p1) (.slice A3 M.length c3))
    go_wp2_with fail
    refine bodyPost_ret (v := .tuple #[.agg #[.int .i64 k1, .int .i64 p1, .slice A3 M.length c3], .bool true]) (by simp [results, Tryz.results20, go_sem, t0_4, t1_4, t2_4]) rfl ?_
    refine ⟨A3, c3, rfl, ?_, by omega, hBx.out⟩
    rw [size_st3]
    exact o4x.out.mono (by omega) (by omega)

set_option maxHeartbeats 4000000 in
theorem sMergeKeyBooks_any (k1 p1 : Int) (z1 : List Int) (A1 : Option Addr) (c1 : Nat) (k2 p2 : Int) (z2 : List Int) (A2 : Option Addr) (c2 : Nat) {l1 h1 l2 h2 : Nat} (w : World) (r10 : Rd w l1 h1 A1 z1) (r20 : Rd w l2 h2 A2 z2) (hl1 : z1.length ≤ 1048576) (hl2 : z2.length ≤ 1048576) :
    Calls Tryz.prog 21 #[.agg #[.int .i64 k1, .int .i64 p1, .slice A1 z1.length c1], .agg #[.int .i64 k2, .int .i64 p2, .slice A2 z2.length c2]] w (KbRd (mbK k1 p1 z1 k2 p2 z2) (mbG k1 p1 z1 k2 p2 z2) (mbL k1 p1 z1 k2 p2 z2) (kpB k1 p1 z1 k2 p2 z2) w) := by
  have r1 := r10.std
  have r2 := r20.std
  clear r10 r20
  have hB : Below w.heap.size w (((w.alloc (.cells #[.int .i64 k1, .int .i64 p1, .slice A1 z1.length c1] 26)).alloc (.cells #[.int .i64 k2, .int .i64 p2, .slice A2 z2.length c2] 26)).alloc (.cells #[.int .i64 0, .int .i64 0, .slice none 0 0] 26)) := (((Below.refl _ _).alloc (Nat.le_refl _) _).alloc (by simp) _).alloc (by simp; omega) _
  have bK : Bk (((w.alloc (.cells #[.int .i64 k1, .int .i64 p1, .slice A1 z1.length c1] 26)).alloc (.cells #[.int .i64 k2, .int .i64 p2, .slice A2 z2.length c2] 26)).alloc (.cells #[.int .i64 0, .int .i64 0, .slice none 0 0] 26)) w.heap.size 26 #[.int .i64 k1, .int .i64 p1, .slice A1 z1.length c1] := ((Bk.new w _ _).alloc _).alloc _
  have bX : Bk (((w.alloc (.cells #[.int .i64 k1, .int .i64 p1, .slice A1 z1.length c1] 26)).alloc (.cells #[.int .i64 k2, .int .i64 p2, .slice A2 z2.length c2] 26)).alloc (.cells #[.int .i64 0, .int .i64 0, .slice none 0 0] 26)) (w.heap.size + 1) 26 #[.int .i64 k2, .int .i64 p2, .slice A2 z2.length c2] := (Bk.new2 w _ _ _).alloc _
  have bZ : Bk (((w.alloc (.cells #[.int .i64 k1, .int .i64 p1, .slice A1 z1.length c1] 26)).alloc (.cells #[.int .i64 k2, .int .i64 p2, .slice A2 z2.length c2] 26)).alloc (.cells #[.int .i64 0, .int .i64 0, .slice none 0 0] 26)) (w.heap.size + 2) 26 #[.int .i64 0, .int .i64 0, .slice none 0 0] := Bk.new3 w _ _ _ _
  have r1a : Rd (((w.alloc (.cells #[.int .i64 k1, .int .i64 p1, .slice A1 z1.length c1] 26)).alloc (.cells #[.int .i64 k2, .int .i64 p2, .slice A2 z2.length c2] 26)).alloc (.cells #[.int .i64 0, .int .i64 0, .slice none 0 0] 26)) 0 w.heap.size A1 z1 := ((r1.alloc _).alloc _).alloc _
  have r2a : Rd (((w.alloc (.cells #[.int .i64 k1, .int .i64 p1, .slice A1 z1.length c1] 26)).alloc (.cells #[.int .i64 k2, .int .i64 p2, .slice A2 z2.length c2] 26)).alloc (.cells #[.int .i64 0, .int .i64 0, .slice none 0 0] 26)) 0 w.heap.size A2 z2 := ((r2.alloc _).alloc _).alloc _
  cases q : kpB k1 p1 z1 k2 p2 z2 with
  | false =>
    obtain ⟨e1, e2, e3⟩ := mb_no q
    rw [e1, e2, e3]
    clear e1 e2 e3
    have y0 := bK.cell 0
    have y1 := bK.cell 1
    have y2 := bK.cell 2
    have x0 := bX.cell 0
    have x1 := bX.cell 1
    have x2 := bX.cell 2
    have t0 := bZ.cell 0
    have t1 := bZ.cell 1
    have t2 := bZ.cell 2
    have f0 := bZ.frozen 0
    have f1 := bZ.frozen 1
    have f2 := bZ.frozen 2
    simp at y0 y1 y2 x0 x1 x2 t0 t1 t2
    go_enter Tryz.func21, Tryz.ntmps21
    go_wp2_with fail
    (with_reducible refine (kyPair_v k1 p1 z1 A1 c1 k2 p2 z2 A2 c2 _ r1a r2a hl1 hl2 _ q).mono ?_)
    rintro e w1 ⟨rfl, hb1⟩
    have s1 : w.heap.size + 3 ≤ w1.heap.size := by have := hb1.size; simpa using this
    have bK1 := bK.st hb1
    have bX1 := bX.st hb1
    have bZ1 := bZ.st hb1
    have hB1 := hB.trans (hb1.mono (by simp; omega))
    have r11 := r1a.st hb1
    have r21 := r2a.st hb1
    clear bK bX bZ hB hb1 r1 r2 r1a r2a
    clear y0 y1 y2 x0 x1 x2 t0 t1 t2 f0 f1 f2
    have y0 := bK1.cell 0
    have y1 := bK1.cell 1
    have y2 := bK1.cell 2
    have x0 := bX1.cell 0
    have x1 := bX1.cell 1
    have x2 := bX1.cell 2
    have t0 := bZ1.cell 0
    have t1 := bZ1.cell 1
    have t2 := bZ1.cell 2
    have f0 := bZ1.frozen 0
    have f1 := bZ1.frozen 1
    have f2 := bZ1.frozen 2
    simp at y0 y1 y2 x0 x1 x2 t0 t1 t2
    go_wp2_with fail
    refine bodyPost_ret (v := .tuple #[.agg #[.int .i64 0, .int .i64 0, .slice none 0 0], .bool false]) (by simp [results, Tryz.results21, go_sem, t0, t1, t2]) rfl ?_
    first | with_reducible exact KbRd.no rfl hB1 | exact KbRd.no rfl (set3 hB1 (by omega) _ _ _)
  | true =>
    obtain ⟨hk1, hk2⟩ := kp_parts q
    have nn1 := kb_sixty hk1
    have nn2 := kb_sixty hk2
    have hmrg := Lib.hid (merge_eq (z2 := z2) hk1)
    obtain ⟨e1, e2, e3⟩ := mb_yes q
    rw [e1, e2, e3]
    have hLl := putM_len z1 z2
    clear e1 e2 e3 hk1 hk2
    have y0 := bK.cell 0
    have y1 := bK.cell 1
    have y2 := bK.cell 2
    have x0 := bX.cell 0
    have x1 := bX.cell 1
    have x2 := bX.cell 2
    have t0 := bZ.cell 0
    have t1 := bZ.cell 1
    have t2 := bZ.cell 2
    have f0 := bZ.frozen 0
    have f1 := bZ.frozen 1
    have f2 := bZ.frozen 2
    simp at y0 y1 y2 x0 x1 x2 t0 t1 t2
    go_enter Tryz.func21, Tryz.ntmps21
    go_wp2_with fail
    (with_reducible refine (kyPair_v k1 p1 z1 A1 c1 k2 p2 z2 A2 c2 _ r1a r2a hl1 hl2 _ q).mono ?_)
    rintro e w1 ⟨rfl, hb1⟩
    have s1 : w.heap.size + 3 ≤ w1.heap.size := by have := hb1.size; simpa using this
    have bK1 := bK.st hb1
    have bX1 := bX.st hb1
    have bZ1 := bZ.st hb1
    have hB1 := hB.trans (hb1.mono (by simp; omega))
    have r11 := r1a.st hb1
    have r21 := r2a.st hb1
    clear bK bX bZ hB hb1 r1 r2 r1a r2a
    clear y0 y1 y2 x0 x1 x2 t0 t1 t2 f0 f1 f2
    have y0 := bK1.cell 0
    have y1 := bK1.cell 1
    have y2 := bK1.cell 2
    have x0 := bX1.cell 0
    have x1 := bX1.cell 1
    have x2 := bX1.cell 2
    have t0 := bZ1.cell 0
    have t1 := bZ1.cell 1
    have t2 := bZ1.cell 2
    have f0 := bZ1.frozen 0
    have f1 := bZ1.frozen 1
    have f2 := bZ1.frozen 2
    simp at y0 y1 y2 x0 x1 x2 t0 t1 t2
    have hlw1 : w.heap.size < w1.heap.size := by omega
    go_wp2_with fail
    go_region_held3 (fun w' => w'.cell? ⟨w.heap.size, 0, none⟩ = some (.int .i64 k1) ∧ w'.cell? ⟨w.heap.size, 1, none⟩ = some (.int .i64 p1) ∧ w'.cell? ⟨w.heap.size, 2, none⟩ = some (.slice A1 z1.length c1))
      (((try go_split_ands); (try dsimp only); (repeat' apply And.intro) <;> (first | with_reducible assumption | with_reducible exact cell_far3 (by omega) (by with_reducible assumption) | with_reducible exact cell_far2 (by omega) (by with_reducible assumption) | ((with_reducible refine (World.cell?_alloc_lt _ _ _ ?_).trans ?_) <;> first | with_reducible assumption | omega | (simp <;> omega)) | ((with_reducible refine (hc2 _ _ ?_).trans ?_) <;> first | with_reducible assumption | omega | (simp <;> omega)) | go_keep)))
      (first
        | (go_at_call 94; ((with_reducible refine (l1Own_any z1 A1 c1 _ r11.drew (by omega)).mono ?_); rintro e w2 ⟨v2, rfl, o2, hb2⟩; (obtain ⟨A5, c5, rfl, _, _⟩ := o2.rd); (have hc2 := (bcell hb2).1); (have s2 : w1.heap.size ≤ w2.heap.size := hb2.size); (have s2' : w.heap.size < w2.heap.size := by omega); (have j0 := (hc2 _ _ (by simp; omega)).trans y0); (have j1 := (hc2 _ _ (by simp; omega)).trans y1); (have j2 := (hc2 _ _ (by simp; omega)).trans y2)))
        | (go_at_call 94; ((with_reducible refine (l1Own_any z1 A1 c1 _ (r11.alloc _).drew (by omega)).mono ?_); rintro e w2 ⟨v2, rfl, o2, hb2⟩; (obtain ⟨A5, c5, rfl, _, _⟩ := o2.rd); (have hc2 := (bcell hb2).1); (have s2 : w1.heap.size + 1 ≤ w2.heap.size := by have := hb2.size; simpa using this); (have s2' : w.heap.size < w2.heap.size := by omega); (have j0 := (hc2 _ _ (by simp; omega)).trans ((World.cell?_alloc_lt w1 _ _ (by simp; omega)).trans y0)); (have j1 := (hc2 _ _ (by simp; omega)).trans ((World.cell?_alloc_lt w1 _ _ (by simp; omega)).trans y1)); (have j2 := (hc2 _ _ (by simp; omega)).trans ((World.cell?_alloc_lt w1 _ _ (by simp; omega)).trans y2)); (have kG := ((Bk.new w1 26 #[.int .i64 0, .int .i64 0, .slice none 0 0]).drew).st hb2); (have g0 := kG.cell 0); (have g1 := kG.cell 1); (have g2 := kG.cell 2); (have m0 := kG.frozen 0); (have m1 := kG.frozen 1); (have m2 := kG.frozen 2); (simp at g0 g1 g2); (have ne0 : ¬ w.heap.size = w1.heap.size := by omega))))
    · skip
      have o2' : Own w2 w1.heap.size w2.heap.size (.slice A5 z1.length c5) z1 := o2
      obtain ⟨W, hW⟩ : ∃ W, W = w2.alloc (.cells #[.int .i64 k1, .int .i64 p1, .slice A5 z1.length c5] 26) := ⟨_, rfl⟩
      have sW : W.heap.size = w2.heap.size + 1 := by rw [hW]; simp
      have hcap5 := o2'.len.2
      have hcM5 := o2'.capM
      have hA5 := o2'.addr_
      have rd5 : Rd W w1.heap.size w2.heap.size A5 z1 := by rw [hW]; exact (o2'.rd').alloc _
      have bX5 : Bk W (w.heap.size + 1) 26 #[.int .i64 k2, .int .i64 p2, .slice A2 z2.length c2] := by rw [hW]; exact ((bX1.drew).st hb2).alloc _
      have bZ5 : Bk W (w.heap.size + 2) 26 #[.int .i64 0, .int .i64 0, .slice none 0 0] := by rw [hW]; exact ((bZ1.drew).st hb2).alloc _
      have bG5 : Bk W w2.heap.size 26 #[.int .i64 k1, .int .i64 p1, .slice A5 z1.length c5] := by rw [hW]; exact Bk.new w2 _ _
      have r25 : Rd W 0 w.heap.size A2 z2 := by rw [hW]; exact ((r21.drew).st hb2).alloc _
      have hB5 : Below w.heap.size w W := by rw [hW]; exact ((hB1.drew).trans (hb2.mono (by simp; omega))).alloc (by omega) _
      have hst0 : w2.heap.size ≤ w2.heap.size ∨ w2.heap.size < w1.heap.size := .inl (Nat.le_refl _)
      clear j0 j1 j2 hb2 hc2 o2 o2' bK1 bX1 bZ1 hB1 r11 r21 y0 y1 y2 x0 x1 x2 t0 t1 t2 f0 f1 f2
      have hlX5 := bX5.lt
      have x0 := bX5.cell 0
      have x1 := bX5.cell 1
      have x2 := bX5.cell 2
      simp at x0 x1 x2
      rw [← hW]
      clear hW
      go_wp2_with fail
      clear x0 x1 x2
      go_loopw [8, 25] (fun _ x wr => ∃ k : Nat, k ≤ z2.length ∧ x = .int .i64 k ∧ ∃ A c l h, Bk wr w2.heap.size 26 #[.int .i64 k1, .int .i64 p1, .slice A (putM z1 (z2.take k)).length c] ∧
          Rd wr l h A (putM z1 (z2.take k)) ∧ (h ≤ w2.heap.size ∨ w2.heap.size < l) ∧ h ≤ wr.heap.size ∧ w.heap.size + 3 ≤ l ∧ (putM z1 (z2.take k)).length ≤ c ∧ c ≤ 9223372036854775807 ∧ ((A = none ∧ c = 0) ∨ ∃ b off, A = some ⟨b, off, none⟩) ∧
          Rd wr 0 w.heap.size A2 z2 ∧ Bk wr (w.heap.size + 2) 26 #[.int .i64 0, .int .i64 0, .slice none 0 0] ∧ Below w.heap.size w wr ∧ w2.heap.size + 1 ≤ wr.heap.size) (fun _ i _ => z2.length - (intOf i).toNat)
      case atStart => exact ⟨0, Nat.zero_le _, rfl, A5, c5, w1.heap.size, w2.heap.size, bG5, rd5, hst0, by omega, by omega, hcap5, hcM5, hA5, r25, bZ5, hB5, by omega⟩
      case round =>
        clear bG5 rd5 hst0 hcap5 hcM5 hA5 r25 bX5 bZ5 hB5
        obtain ⟨k, hk, rfl, A, c, l, h, bG4, r4, hg4, hh4, hl4, hcap4, hcM4, hA4, r24, bZ4, hB4, hs4⟩ := hrel
        have hml := putM_len z1 (z2.take k)
        have htl : (z2.take k).length ≤ 60 := by rw [List.length_take]; omega
        have hl6 : (putM z1 (z2.take k)).length ≤ 1048575 := by omega
        clear hml htl
        have hlG4 := bG4.lt
        have hlZ4 := bZ4.lt
        have v0 := bG4.cell 0
        have v1 := bG4.cell 1
        have v2 := bG4.cell 2
        have n0 := bG4.frozen 0
        have n1 := bG4.frozen 1
        have n2 := bG4.frozen 2
        simp at v0 v1 v2
        by_cases hlt : k < z2.length
        · obtain ⟨b2, off2, rfl, _, hb2l, hc2⟩ := r24 (by omega)
          have e0 := hc2 k hlt
          clear hc2
          obtain ⟨L, hL⟩ : ∃ L, putL (putM z1 (z2.take k)) z2[k] = L := ⟨_, rfl⟩
          have hUL := Lib.hid (show putM z1 (z2.take (k + 1)) = L by rw [putM_succ z1 z2 k hlt, hL])
          have hLl2 := putL_len (putM z1 (z2.take k)) z2[k]
          rw [hL] at hLl2
          have hLm : L.length ≤ 1048576 := by omega
          clear hLl2
          go_wp2_with fail
          (with_reducible refine (l1Put_L (putM z1 (z2.take k)) A c z2[k] _ r4 (by omega) hcap4 hcM4 hA4 L hL).mono ?_)
          rintro e w6 ⟨A6, c6, l6, h6, rfl, r6, hor6, lc6, mc6, ha6, hb6⟩
          have s6 : wr.heap.size ≤ w6.heap.size := hb6.size
          have hg6 : h6 ≤ w2.heap.size ∨ w2.heap.size < l6 := by rcases hor6 with ⟨a, b⟩ | ⟨a, b⟩ <;> omega
          have hh6 : h6 ≤ w6.heap.size := by rcases hor6 with ⟨a, b⟩ | ⟨a, b⟩ <;> omega
          have hl6' : w.heap.size + 3 ≤ l6 := by rcases hor6 with ⟨a, b⟩ | ⟨a, b⟩ <;> omega
          have bG6 := bG4.st hb6
          have kG : Bk (w6.setCell ⟨w2.heap.size, 2, none⟩ (.slice A6 L.length c6)) w2.heap.size 26 #[.int .i64 k1, .int .i64 p1, .slice A6 L.length c6] := by simpa using bG6.set_ 2 (.slice A6 L.length c6)
          have kZ := (bZ4.st hb6).far (p := ⟨w2.heap.size, 2, none⟩) (by dsimp only; omega) (.slice A6 L.length c6)
          have q2 := (r24.st hb6).setCell (p := ⟨w2.heap.size, 2, none⟩) (by dsimp only; omega) (.slice A6 L.length c6)
          have q4 := Rd.store (p := ⟨w2.heap.size, 2, none⟩) r6 (by dsimp only; omega) (.slice A6 L.length c6)
          have hBc := Lib.hid ((hB4.trans (hb6.mono (by omega))).setCell (p := ⟨w2.heap.size, 2, none⟩) (by dsimp only; omega) (.slice A6 L.length c6))
          have hsz := Lib.hid (size_setCell w6 ⟨w2.heap.size, 2, none⟩ (.slice A6 L.length c6))
          clear v0 v1 v2 n0 n1 n2 e0
          have v0 := bG6.cell 0
          have v1 := bG6.cell 1
          have v2 := bG6.cell 2
          have n0 := bG6.frozen 0
          have n1 := bG6.frozen 1
          have n2 := bG6.frozen 2
          simp at v0 v1 v2
          have kGH := Lib.hid kG
          have kZH := Lib.hid kZ
          have q2H := Lib.hid q2
          have q4H := Lib.hid q4
          clear bG6 kG kZ q2 q4 r4 r24 bG4 bZ4 hB4 hb6 r6 hor6
          go_wp2
          go_roundw
          case rel => exact ⟨k + 1, by omega, by go_num, A6, c6, l6, h6, by rw [hUL.out]; exact kGH.out, by rw [hUL.out]; exact q4H.out, hg6, by rw [hsz.out]; omega, hl6', by rw [hUL.out]; exact lc6, mc6, .inr ha6, q2H.out, kZH.out, hBc.out, by rw [hsz.out]; omega⟩
          case measure => simp [intOf]; omega
        · obtain rfl : k = z2.length := by omega
          obtain ⟨M, hM⟩ : ∃ M, putM z1 (z2.take z2.length) = M := ⟨_, rfl⟩
          rw [hM] at v2 r4 bG4 hcap4 hl6
          have hMH := Lib.hid (show M = putM z1 z2 by rw [← hM, List.take_length])
          have ne1 : ¬ w2.heap.size = w.heap.size + 2 := by omega
          clear hM
          have t0 := bZ4.cell 0
          have t1 := bZ4.cell 1
          have t2 := bZ4.cell 2
          have f0 := bZ4.frozen 0
          have f1 := bZ4.frozen 1
          have f2 := bZ4.frozen 2
          simp at t0 t1 t2
          have rx := Lib.hid (Rd.st3 (g := w.heap.size + 2) r4 (by omega) (.int .i64 k1) (.int .i64 p1) (.slice A M.length c))
          have hBx := Lib.hid (set3 hB4 (show w.heap.size ≤ w.heap.size + 2 by omega) (.int .i64 k1) (.int .i64 p1) (.slice A M.length c))
          clear r4 r24 hB4 bG4 bZ4
          go_wp2_with fail
          refine bodyPost_ret (v := .tuple #[.agg #[.int .i64 k1, .int .i64 p1, .slice A M.length c], .bool true]) (by simp [results, Tryz.results21, go_sem, t0, t1, t2]) rfl ?_
          rw [← hMH.out]
          exact ⟨A, c, rfl, rx.out.mono (by omega) (by rw [size_st3]; omega), by omega, hBx.out⟩
    · skip
      have o2' : Own w2 (w1.heap.size + 1) w2.heap.size (.slice A5 z1.length c5) z1 := by
        have e : ((w1.alloc (.cells #[.int .i64 0, .int .i64 0, .slice none 0 0] 26)).drew).heap.size = w1.heap.size + 1 := by simp
        rw [e] at o2
        exact o2
      obtain ⟨W, hW⟩ : ∃ W, W = (((w2.setCell ⟨w1.heap.size, 0, none⟩ (.int .i64 k1)).setCell ⟨w1.heap.size, 1, none⟩ (.int .i64 p1)).setCell ⟨w1.heap.size, 2, none⟩ (.slice A5 z1.length c5)) := ⟨_, rfl⟩
      have sW : W.heap.size = w2.heap.size := by rw [hW]; simp only [size_setCell]
      have hcap5 := o2'.len.2
      have hcM5 := o2'.capM
      have hA5 := o2'.addr_
      have rd5 : Rd W (w1.heap.size + 1) w2.heap.size A5 z1 := by rw [hW]; exact (o2'.rd').st3 (.inr (by omega)) _ _ _
      have bX5 : Bk W (w.heap.size + 1) 26 #[.int .i64 k2, .int .i64 p2, .slice A2 z2.length c2] := by rw [hW]; exact (((bX1.alloc _).drew).st hb2).far3 (by omega) _ _ _
      have bZ5 : Bk W (w.heap.size + 2) 26 #[.int .i64 0, .int .i64 0, .slice none 0 0] := by rw [hW]; exact (((bZ1.alloc _).drew).st hb2).far3 (by omega) _ _ _
      have bG5 : Bk W w1.heap.size 26 #[.int .i64 k1, .int .i64 p1, .slice A5 z1.length c5] := by rw [hW]; exact kG.put3 _ _ _
      have r25 : Rd W 0 w.heap.size A2 z2 := by rw [hW]; exact (((r21.alloc _).drew).st hb2).st3 (.inl (by omega)) _ _ _
      have hB5 : Below w.heap.size w W := by rw [hW]; exact set3 (((hB1.alloc (by omega) _).drew).trans (hb2.mono (by simp; omega))) (by omega) _ _ _
      have hst0 : w2.heap.size ≤ w1.heap.size ∨ w1.heap.size < w1.heap.size + 1 := .inr (Nat.lt_succ_self _)
      clear j0 j1 j2 g0 g1 g2 m0 m1 m2 kG hb2 hc2 o2 o2' bK1 bX1 bZ1 hB1 r11 r21 y0 y1 y2 x0 x1 x2 t0 t1 t2 f0 f1 f2
      have hlX5 := bX5.lt
      have x0 := bX5.cell 0
      have x1 := bX5.cell 1
      have x2 := bX5.cell 2
      simp at x0 x1 x2
      rw [← hW]
      clear hW
      go_wp2_with fail
      clear x0 x1 x2
      go_loopw [8, 25] (fun _ x wr => ∃ k : Nat, k ≤ z2.length ∧ x = .int .i64 k ∧ ∃ A c l h, Bk wr w1.heap.size 26 #[.int .i64 k1, .int .i64 p1, .slice A (putM z1 (z2.take k)).length c] ∧
          Rd wr l h A (putM z1 (z2.take k)) ∧ (h ≤ w1.heap.size ∨ w1.heap.size < l) ∧ h ≤ wr.heap.size ∧ w.heap.size + 3 ≤ l ∧ (putM z1 (z2.take k)).length ≤ c ∧ c ≤ 9223372036854775807 ∧ ((A = none ∧ c = 0) ∨ ∃ b off, A = some ⟨b, off, none⟩) ∧
          Rd wr 0 w.heap.size A2 z2 ∧ Bk wr (w.heap.size + 2) 26 #[.int .i64 0, .int .i64 0, .slice none 0 0] ∧ Below w.heap.size w wr ∧ w1.heap.size + 1 ≤ wr.heap.size) (fun _ i _ => z2.length - (intOf i).toNat)
      case atStart => exact ⟨0, Nat.zero_le _, rfl, A5, c5, (w1.heap.size + 1), w2.heap.size, bG5, rd5, hst0, by omega, by omega, hcap5, hcM5, hA5, r25, bZ5, hB5, by omega⟩
      case round =>
        clear bG5 rd5 hst0 hcap5 hcM5 hA5 r25 bX5 bZ5 hB5
        obtain ⟨k, hk, rfl, A, c, l, h, bG4, r4, hg4, hh4, hl4, hcap4, hcM4, hA4, r24, bZ4, hB4, hs4⟩ := hrel
        have hml := putM_len z1 (z2.take k)
        have htl : (z2.take k).length ≤ 60 := by rw [List.length_take]; omega
        have hl6 : (putM z1 (z2.take k)).length ≤ 1048575 := by omega
        clear hml htl
        have hlG4 := bG4.lt
        have hlZ4 := bZ4.lt
        have v0 := bG4.cell 0
        have v1 := bG4.cell 1
        have v2 := bG4.cell 2
        have n0 := bG4.frozen 0
        have n1 := bG4.frozen 1
        have n2 := bG4.frozen 2
        simp at v0 v1 v2
        by_cases hlt : k < z2.length
        · obtain ⟨b2, off2, rfl, _, hb2l, hc2⟩ := r24 (by omega)
          have e0 := hc2 k hlt
          clear hc2
          obtain ⟨L, hL⟩ : ∃ L, putL (putM z1 (z2.take k)) z2[k] = L := ⟨_, rfl⟩
          have hUL := Lib.hid (show putM z1 (z2.take (k + 1)) = L by rw [putM_succ z1 z2 k hlt, hL])
          have hLl2 := putL_len (putM z1 (z2.take k)) z2[k]
          rw [hL] at hLl2
          have hLm : L.length ≤ 1048576 := by omega
          clear hLl2
          go_wp2_with fail
          (with_reducible refine (l1Put_L (putM z1 (z2.take k)) A c z2[k] _ r4 (by omega) hcap4 hcM4 hA4 L hL).mono ?_)
          rintro e w6 ⟨A6, c6, l6, h6, rfl, r6, hor6, lc6, mc6, ha6, hb6⟩
          have s6 : wr.heap.size ≤ w6.heap.size := hb6.size
          have hg6 : h6 ≤ w1.heap.size ∨ w1.heap.size < l6 := by rcases hor6 with ⟨a, b⟩ | ⟨a, b⟩ <;> omega
          have hh6 : h6 ≤ w6.heap.size := by rcases hor6 with ⟨a, b⟩ | ⟨a, b⟩ <;> omega
          have hl6' : w.heap.size + 3 ≤ l6 := by rcases hor6 with ⟨a, b⟩ | ⟨a, b⟩ <;> omega
          have bG6 := bG4.st hb6
          have kG : Bk (w6.setCell ⟨w1.heap.size, 2, none⟩ (.slice A6 L.length c6)) w1.heap.size 26 #[.int .i64 k1, .int .i64 p1, .slice A6 L.length c6] := by simpa using bG6.set_ 2 (.slice A6 L.length c6)
          have kZ := (bZ4.st hb6).far (p := ⟨w1.heap.size, 2, none⟩) (by dsimp only; omega) (.slice A6 L.length c6)
          have q2 := (r24.st hb6).setCell (p := ⟨w1.heap.size, 2, none⟩) (by dsimp only; omega) (.slice A6 L.length c6)
          have q4 := Rd.store (p := ⟨w1.heap.size, 2, none⟩) r6 (by dsimp only; omega) (.slice A6 L.length c6)
          have hBc := Lib.hid ((hB4.trans (hb6.mono (by omega))).setCell (p := ⟨w1.heap.size, 2, none⟩) (by dsimp only; omega) (.slice A6 L.length c6))
          have hsz := Lib.hid (size_setCell w6 ⟨w1.heap.size, 2, none⟩ (.slice A6 L.length c6))
          clear v0 v1 v2 n0 n1 n2 e0
          have v0 := bG6.cell 0
          have v1 := bG6.cell 1
          have v2 := bG6.cell 2
          have n0 := bG6.frozen 0
          have n1 := bG6.frozen 1
          have n2 := bG6.frozen 2
          simp at v0 v1 v2
          have kGH := Lib.hid kG
          have kZH := Lib.hid kZ
          have q2H := Lib.hid q2
          have q4H := Lib.hid q4
          clear bG6 kG kZ q2 q4 r4 r24 bG4 bZ4 hB4 hb6 r6 hor6
          go_wp2
          go_roundw
          case rel => exact ⟨k + 1, by omega, by go_num, A6, c6, l6, h6, by rw [hUL.out]; exact kGH.out, by rw [hUL.out]; exact q4H.out, hg6, by rw [hsz.out]; omega, hl6', by rw [hUL.out]; exact lc6, mc6, .inr ha6, q2H.out, kZH.out, hBc.out, by rw [hsz.out]; omega⟩
          case measure => simp [intOf]; omega
        · obtain rfl : k = z2.length := by omega
          obtain ⟨M, hM⟩ : ∃ M, putM z1 (z2.take z2.length) = M := ⟨_, rfl⟩
          rw [hM] at v2 r4 bG4 hcap4 hl6
          have hMH := Lib.hid (show M = putM z1 z2 by rw [← hM, List.take_length])
          have ne1 : ¬ w1.heap.size = w.heap.size + 2 := by omega
          clear hM
          have t0 := bZ4.cell 0
          have t1 := bZ4.cell 1
          have t2 := bZ4.cell 2
          have f0 := bZ4.frozen 0
          have f1 := bZ4.frozen 1
          have f2 := bZ4.frozen 2
          simp at t0 t1 t2
          have rx := Lib.hid (Rd.st3 (g := w.heap.size + 2) r4 (by omega) (.int .i64 k1) (.int .i64 p1) (.slice A M.length c))
          have hBx := Lib.hid (set3 hB4 (show w.heap.size ≤ w.heap.size + 2 by omega) (.int .i64 k1) (.int .i64 p1) (.slice A M.length c))
          clear r4 r24 hB4 bG4 bZ4
          go_wp2_with fail
          refine bodyPost_ret (v := .tuple #[.agg #[.int .i64 k1, .int .i64 p1, .slice A M.length c], .bool true]) (by simp [results, Tryz.results21, go_sem, t0, t1, t2]) rfl ?_
          rw [← hMH.out]
          exact ⟨A, c, rfl, rx.out.mono (by omega) (by rw [size_st3]; omega), by omega, hBx.out⟩
end Go.Proofs.YtjhbffndiaggmaaGreatDoor
