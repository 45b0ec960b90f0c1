/-
  Contracts on key books: pairs of them, the pages left, the pages used twice, the numbers of a page. The conditions are bounds on lengths.
-/
import Derived.Test.YtdonggpcabkmlaaKeyBook
import Derived.Test.YtdonggpcabkmlaaPageMix
import Derived.Deep.RegionHeld3
namespace Go.Proofs.Ytdonggpcabkmlaa
open Go.RowKit Go.ChangeShapes Go.WideShapes
set_option linter.unusedVariables false

def plV (key pages : Int) (zs : List Int) : Int := if kbB key pages zs then pages - (zs.length : Int) else 0
def kpB (k1 p1 : Int) (z1 : List Int) (k2 p2 : Int) (z2 : List Int) : Bool := kbB k1 p1 z1 && (kbB k2 p2 z2 && (decide (k1 = k2) && decide (p1 = p2)))
theorem ret_zb {A : Option Addr} {n m c : Nat} {p q : Bool} (h : n = m) (h' : p = q) : Ending.returned (.tuple #[.slice A n c, .bool p]) = .returned (.tuple #[.slice A m c, .bool q]) := by rw [h, h']



set_option maxHeartbeats 1000000 in
theorem kyPair_any (k1 p1 : Int) (z1 : List Int) (A1 : Option Addr) (c1 : Nat) (k2 p2 : Int) (z2 : List Int) (A2 : Option Addr) (c2 : Nat) {l1 h1 l2 h2 : Nat} (w : World) (hr1 : Rd w l1 h1 A1 z1) (hr2 : Rd w l2 h2 A2 z2) (hl1 : z1.length ≤ 1048576) (hl2 : z2.length ≤ 1048576) :
    Calls Try.prog 62 #[.agg #[.int .i64 k1, .int .i64 p1, .slice A1 z1.length c1], .agg #[.int .i64 k2, .int .i64 p2, .slice A2 z2.length c2]] w fun e w' => e = .returned (.bool (kpB k1 p1 z1 k2 p2 z2)) ∧ Below w.heap.size w w' := by
  cases q1 : kbB k1 p1 z1 with
  | false =>
    have hv := Lib.hid (show kpB k1 p1 z1 k2 p2 z2 = false by simp [kpB, q1])
    go_enter Try.func62, Try.ntmps62
    go_wp2_with fail
    refine (kyGood_any k1 p1 z1 A1 c1 _ ((hr1.alloc _).alloc _) (by omega)).mono ?_
    rintro e w1 ⟨rfl, hb1⟩
    have hb := (((Below.refl w.heap.size w).alloc (Nat.le_refl _) _).alloc (by simp) _).trans (hb1.mono (by simp; omega))
    clear hb1
    go_wp2
    go_ret
    exact ⟨by rw [hv.out]; rfl, hb⟩
  | true =>
    have hq1 := Lib.hid q1
    cases q2 : kbB k2 p2 z2 with
    | false =>
      have hv := Lib.hid (show kpB k1 p1 z1 k2 p2 z2 = false by simp [kpB, q1, q2])
      go_enter Try.func62, Try.ntmps62
      go_wp2_with fail
      refine (kyGood_any k1 p1 z1 A1 c1 _ ((hr1.alloc _).alloc _) (by omega)).mono ?_
      rintro e w1 ⟨rfl, hb1⟩
      have hb := (((Below.refl w.heap.size w).alloc (Nat.le_refl _) _).alloc (by simp) _).trans (hb1.mono (by simp; omega))
      have s1 : w.heap.size + 2 ≤ w1.heap.size := by have := hb1.size; simp at this; omega
      have b2 := (Bk.new2 w _ _ _).st hb1
      have r2 := ((hr2.alloc _).alloc _).st hb1
      have d0 := b2.cell 0
      have d1 := b2.cell 1
      have d2 := b2.cell 2
      simp at d0 d1 d2
      clear hb1 b2
      go_wp2_with fail
      refine (kyGood_any k2 p2 z2 A2 c2 _ r2 (by omega)).mono ?_
      rintro e w2 ⟨rfl, hb2⟩
      have hb' := hb.trans (hb2.mono (by omega))
      clear hb hb2 d0 d1 d2
      go_wp2
      go_ret
      exact ⟨by rw [hv.out]; rfl, hb'⟩
    | true =>
      have hq2 := Lib.hid q2
      have key : ∀ (e1 : Bool) (e2 : Bool), (k1 == k2) = e1 → (p1 == p2) = e2 → Hid (kpB k1 p1 z1 k2 p2 z2 = (e1 && e2)) := by
        intro e1 e2 h1 h2
        show _ = _
        rw [← h1, ← h2]
        simp only [kpB, hq1.out, hq2.out, Bool.true_and]
        rw [Bool.eq_iff_iff]; simp
      cases e1 : (k1 == k2) <;> cases e2 : (p1 == p2)
      all_goals
        have hv := key _ _ e1 e2
        go_enter Try.func62, Try.ntmps62
        go_wp2_with fail
        refine (kyGood_any k1 p1 z1 A1 c1 _ ((hr1.alloc _).alloc _) (by omega)).mono ?_
        rintro e w1 ⟨rfl, hb1⟩
        have hb := (((Below.refl w.heap.size w).alloc (Nat.le_refl _) _).alloc (by simp) _).trans (hb1.mono (by simp; omega))
        have s1 : w.heap.size + 2 ≤ w1.heap.size := by have := hb1.size; simp at this; omega
        have b1 := ((Bk.new w _ _).alloc _).st hb1
        have b2 := (Bk.new2 w _ _ _).st hb1
        have r2 := ((hr2.alloc _).alloc _).st hb1
        have d0 := b2.cell 0
        have d1 := b2.cell 1
        have d2 := b2.cell 2
        simp at d0 d1 d2
        clear hb1
        go_wp2_with fail
        refine (kyGood_any k2 p2 z2 A2 c2 _ r2 (by omega)).mono ?_
        rintro e w2 ⟨rfl, hb2⟩
        have hb' := hb.trans (hb2.mono (by omega))
        have g1 := b1.st hb2
        have g2 := b2.st hb2
        clear hb hb2 d0 d1 d2 b1 b2
        have a0 := g1.cell 0
        have a1 := g1.cell 1
        have d0 := g2.cell 0
        have d1 := g2.cell 1
        simp at a0 a1 d0 d1
        clear g1 g2
        go_wp2
        go_ret
        exact ⟨by rw [hv.out]; rfl, hb'⟩

set_option maxHeartbeats 1000000 in
theorem sameBook_any (k1 p1 : Int) (z1 : List Int) (A1 : Option Addr) (c1 : Nat) (k2 p2 : Int) (z2 : List Int) (A2 : Option Addr) (c2 : Nat) {l1 h1 l2 h2 : Nat} (w : World) (hr1 : Rd w l1 h1 A1 z1) (hr2 : Rd w l2 h2 A2 z2) (hl1 : z1.length ≤ 1048576) (hl2 : z2.length ≤ 1048576) :
    Calls Try.prog 65 #[.agg #[.int .i64 k1, .int .i64 p1, .slice A1 z1.length c1], .agg #[.int .i64 k2, .int .i64 p2, .slice A2 z2.length c2]] w fun e w' => e = .returned (.bool (kpB k1 p1 z1 k2 p2 z2)) ∧ Below w.heap.size w w' := by
  cases q1 : kbB k1 p1 z1 with
  | false =>
    have hv := Lib.hid (show kpB k1 p1 z1 k2 p2 z2 = false by simp [kpB, q1])
    go_enter Try.func65, Try.ntmps65
    go_wp2_with fail
    refine (iIsKeyBook_any k1 p1 z1 A1 c1 _ ((hr1.alloc _).alloc _) (by omega)).mono ?_
    rintro e w1 ⟨rfl, hb1⟩
    have hb := (((Below.refl w.heap.size w).alloc (Nat.le_refl _) _).alloc (by simp) _).trans (hb1.mono (by simp; omega))
    clear hb1
    go_wp2
    go_ret
    exact ⟨by rw [hv.out]; rfl, hb⟩
  | true =>
    have hq1 := Lib.hid q1
    cases q2 : kbB k2 p2 z2 with
    | false =>
      have hv := Lib.hid (show kpB k1 p1 z1 k2 p2 z2 = false by simp [kpB, q1, q2])
      go_enter Try.func65, Try.ntmps65
      go_wp2_with fail
      refine (iIsKeyBook_any k1 p1 z1 A1 c1 _ ((hr1.alloc _).alloc _) (by omega)).mono ?_
      rintro e w1 ⟨rfl, hb1⟩
      have hb := (((Below.refl w.heap.size w).alloc (Nat.le_refl _) _).alloc (by simp) _).trans (hb1.mono (by simp; omega))
      have s1 : w.heap.size + 2 ≤ w1.heap.size := by have := hb1.size; simp at this; omega
      have b2 := (Bk.new2 w _ _ _).st hb1
      have r2 := ((hr2.alloc _).alloc _).st hb1
      have d0 := b2.cell 0
      have d1 := b2.cell 1
      have d2 := b2.cell 2
      simp at d0 d1 d2
      clear hb1 b2
      go_wp2_with fail
      refine (iIsKeyBook_any k2 p2 z2 A2 c2 _ r2 (by omega)).mono ?_
      rintro e w2 ⟨rfl, hb2⟩
      have hb' := hb.trans (hb2.mono (by omega))
      clear hb hb2 d0 d1 d2
      go_wp2
      go_ret
      exact ⟨by rw [hv.out]; rfl, hb'⟩
    | true =>
      have hq2 := Lib.hid q2
      have key : ∀ (e1 : Bool) (e2 : Bool), (k1 == k2) = e1 → (p1 == p2) = e2 → Hid (kpB k1 p1 z1 k2 p2 z2 = (e1 && e2)) := by
        intro e1 e2 h1 h2
        show _ = _
        rw [← h1, ← h2]
        simp only [kpB, hq1.out, hq2.out, Bool.true_and]
        rw [Bool.eq_iff_iff]; simp
      cases e1 : (k1 == k2) <;> cases e2 : (p1 == p2)
      all_goals
        have hv := key _ _ e1 e2
        go_enter Try.func65, Try.ntmps65
        go_wp2_with fail
        refine (iIsKeyBook_any k1 p1 z1 A1 c1 _ ((hr1.alloc _).alloc _) (by omega)).mono ?_
        rintro e w1 ⟨rfl, hb1⟩
        have hb := (((Below.refl w.heap.size w).alloc (Nat.le_refl _) _).alloc (by simp) _).trans (hb1.mono (by simp; omega))
        have s1 : w.heap.size + 2 ≤ w1.heap.size := by have := hb1.size; simp at this; omega
        have b1 := ((Bk.new w _ _).alloc _).st hb1
        have b2 := (Bk.new2 w _ _ _).st hb1
        have r2 := ((hr2.alloc _).alloc _).st hb1
        have d0 := b2.cell 0
        have d1 := b2.cell 1
        have d2 := b2.cell 2
        simp at d0 d1 d2
        clear hb1
        go_wp2_with fail
        refine (iIsKeyBook_any k2 p2 z2 A2 c2 _ r2 (by omega)).mono ?_
        rintro e w2 ⟨rfl, hb2⟩
        have hb' := hb.trans (hb2.mono (by omega))
        have g1 := b1.st hb2
        have g2 := b2.st hb2
        clear hb hb2 d0 d1 d2 b1 b2
        have a0 := g1.cell 0
        have a1 := g1.cell 1
        have d0 := g2.cell 0
        have d1 := g2.cell 1
        simp at a0 a1 d0 d1
        clear g1 g2
        go_wp2
        go_ret
        exact ⟨by rw [hv.out]; rfl, hb'⟩

/-- the pages used in both -/
def duTo (z1 z2 : List Int) (k : Nat) : List Int := (z1.take k).filter fun x => hasB z2 x
theorem duTo_yes {z1 z2 : List Int} {k : Nat} (h : k < z1.length) (h1 : hasB z2 z1[k] = true) : duTo z1 z2 (k + 1) = duTo z1 z2 k ++ [z1[k]] := by
  unfold duTo; rw [List.take_succ_eq_append_getElem h, List.filter_append]; simp [h1]
theorem duTo_no {z1 z2 : List Int} {k : Nat} (h : k < z1.length) (h1 : hasB z2 z1[k] = false) : duTo z1 z2 (k + 1) = duTo z1 z2 k := by
  unfold duTo; rw [List.take_succ_eq_append_getElem h, List.filter_append]; simp [h1]
theorem duTo_len (z1 z2 : List Int) (k : Nat) : (duTo z1 z2 k).length ≤ z1.length := by
  unfold duTo; exact Nat.le_trans (List.length_filter_le _ _) (by rw [List.length_take]; exact Nat.min_le_right _ _)
def duL (k1 p1 : Int) (z1 : List Int) (k2 p2 : Int) (z2 : List Int) : List Int := if kpB k1 p1 z1 k2 p2 z2 then duTo z1 z2 z1.length else []
theorem duL_len (k1 p1 : Int) (z1 : List Int) (k2 p2 : Int) (z2 : List Int) : (duL k1 p1 z1 k2 p2 z2).length ≤ z1.length := by
  unfold duL; split
  · exact duTo_len _ _ _
  · simp



set_option maxHeartbeats 400000 in
theorem markKeyBook_b (key pages : Int) (zs : List Int) (A : Option Addr) (c : Nat) (k0 : Int) {lo hi : Nat} (w : World) (hown : Own w lo hi (.slice A zs.length c) zs) (h0 : 0 ≤ k0) (h1 : k0 + zs.length ≤ 1000000000000) :
    Calls Try.prog 17 #[.agg #[.int .i64 key, .int .i64 pages, .slice A zs.length c], .int .i64 k0] w fun e w' => e = .returned (.int .i64 (k0 + zs.length)) ∧ Own w' lo hi (.slice A zs.length c) (fill k0 zs.length) ∧ Fr lo hi w w' := by
  go_enter Try.func17, Try.ntmps17
  go_wp2_with (go_at_call 28; refine (markIntS_any zs A c k0 _ (hown.alloc _) h0 h1).mono ?_; rintro e w1 ⟨rfl, ho, hf, hs⟩)
  go_ret
  exact ⟨rfl, ho, ((Fr.refl _ _ _).alloc _).trans hf⟩
end Go.Proofs.Ytdonggpcabkmlaa
