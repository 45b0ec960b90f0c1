/-
  Contracts of SameNumbers. The conditions are bounds on lengths.
-/
import Derived.Test.YtbagliaelolhcaaKeyPage
import Derived.Deep.RegionHeld3
namespace Go.Proofs.Ytbagliaelolhcaa
open Go.RowKit Go.ChangeShapes Go.WideShapes
set_option linter.unusedVariables false

def snB (k1 p1 : Int) (z1 : List Int) (p q : Int) : Bool := pgB k1 p1 z1 p && pgB k1 p1 z1 q
/-- the places below k at which two lists hold the same -/
def snTo (x y : List Int) (k : Nat) : List Int := ((List.range k).filter fun i => x[i]? == y[i]?).map fun i : Nat => (i : Int)
theorem snTo_len (x y : List Int) (k : Nat) : (snTo x y k).length ≤ k := by
  unfold snTo; rw [List.length_map]; exact Nat.le_trans (List.length_filter_le _ _) (by simp)
theorem snTo_yes {x y : List Int} {k : Nat} (h : x[k]? = y[k]?) : snTo x y (k + 1) = snTo x y k ++ [(k : Int)] := by
  unfold snTo; rw [List.range_succ, List.filter_append, List.map_append]; simp [h]
theorem snTo_no {x y : List Int} {k : Nat} (h : x[k]? ≠ y[k]?) : snTo x y (k + 1) = snTo x y k := by
  unfold snTo; rw [List.range_succ, List.filter_append, List.map_append]; simp [h]
def snL (k1 p1 : Int) (z1 : List Int) (p q : Int) : List Int := if snB k1 p1 z1 p q then snTo (pageL k1 p) (pageL k1 q) 20 else []
theorem snL_len (k1 p1 : Int) (z1 : List Int) (p q : Int) : (snL k1 p1 z1 p q).length ≤ 20 := by
  unfold snL; split
  · exact snTo_len _ _ _
  · simp

set_option maxHeartbeats 2000000 in
theorem sSameNumbers_any (k1 p1 : Int) (z1 : List Int) (A1 : Option Addr) (c1 : Nat) (p q : Int) {l h : Nat} (w : World) (hr : Rd w l h A1 z1) (hl : z1.length ≤ 1048576) :
    Calls Try.prog 66 #[.agg #[.int .i64 k1, .int .i64 p1, .slice A1 z1.length c1], .int .i64 p, .int .i64 q] w (SpecZB (snL k1 p1 z1 p q) (snB k1 p1 z1 p q) w) := by
  have hlen : (snL k1 p1 z1 p q).length ≤ 1048576 := Nat.le_trans (snL_len k1 p1 z1 p q) (by omega)
  cases h1 : pgB k1 p1 z1 p with
  | false =>
    have hv : snL k1 p1 z1 p q = [] := by simp [snL, snB, h1]
    have hv2 := Lib.hid (show snB k1 p1 z1 p q = false by simp [snB, h1])
    rw [hv] at hlen ⊢
    clear hv
    go_enter Try.func66, Try.ntmps66
    go_wp2_with (go_at_call 131; refine (kyHas_any k1 p1 z1 A1 c1 p _ (hr.alloc _) hl).mono ?_; rintro e w1 ⟨rfl, hb1⟩)
    go_ret2
    exact SpecZB.nil rfl hv2.out.symm (((Below.refl w.heap.size w).alloc (Nat.le_refl _) _).trans (hb1.mono (by simp)))
  | true =>
    have hbp := pgB_bd h1
    cases h2 : pgB k1 p1 z1 q with
    | false =>
      have hv : snL k1 p1 z1 p q = [] := by simp [snL, snB, h1, h2]
      have hv2 := Lib.hid (show snB k1 p1 z1 p q = false by simp [snB, h1, h2])
      rw [hv] at hlen ⊢
      clear hv
      go_enter Try.func66, Try.ntmps66
      go_wp2_with fail
      refine (kyHas_any k1 p1 z1 A1 c1 p _ (hr.alloc _) hl).mono ?_
      rintro e w1 ⟨rfl, hb1⟩
      have hb := ((Below.refl w.heap.size w).alloc (Nat.le_refl _) _).trans (hb1.mono (by simp))
      have b1 := (Bk.new w _ _).st hb1
      have r1 := (hr.alloc _).st hb1
      have a0 := b1.cell 0
      have a1 := b1.cell 1
      have a2 := b1.cell 2
      simp at a0 a1 a2
      have s1 : w.heap.size + 1 ≤ w1.heap.size := by have := hb1.size; simpa using this
      clear hb1 b1
      go_wp2_with fail
      refine (kyHas_any k1 p1 z1 A1 c1 q _ r1 hl).mono ?_
      rintro e w2 ⟨rfl, hb2⟩
      have hb' := hb.trans (hb2.mono (by omega))
      clear hb hb2 a0 a1 a2
      go_wp2
      go_ret2
      exact SpecZB.nil rfl hv2.out.symm hb'
    | true =>
      have hbq := pgB_bd h2
      have hv : snL k1 p1 z1 p q = snTo (pageL k1 p) (pageL k1 q) 20 := by simp [snL, snB, h1, h2]
      have hv2 := Lib.hid (show snB k1 p1 z1 p q = true by simp [snB, h1, h2])
      rw [hv] at hlen ⊢
      clear hv
      have lp : (pageL k1 p).length = 20 := pageL_len k1 p
      have lq : (pageL k1 q).length = 20 := pageL_len k1 q
      have lpH := Lib.hid lp
      have lqH := Lib.hid lq
      go_enter Try.func66, Try.ntmps66
      clear lp lq
      go_wp2_with fail
      refine (kyHas_any k1 p1 z1 A1 c1 p _ (hr.alloc _) hl).mono ?_
      rintro e w1 ⟨rfl, hb1⟩
      have hb := ((Below.refl w.heap.size w).alloc (Nat.le_refl _) _).trans (hb1.mono (by simp))
      have b1 := (Bk.new w _ _).st hb1
      have r1 := (hr.alloc _).st hb1
      have a0 := b1.cell 0
      have a1 := b1.cell 1
      have a2 := b1.cell 2
      simp at a0 a1 a2
      have s1 : w.heap.size + 1 ≤ w1.heap.size := by have := hb1.size; simpa using this
      clear hb1
      go_wp2_with fail
      refine (kyHas_any k1 p1 z1 A1 c1 q _ r1 hl).mono ?_
      rintro e w2 ⟨rfl, hb2⟩
      have s2 := hb2.size
      have hb' := hb.trans (hb2.mono (by omega))
      have b2 := b1.st hb2
      clear hb hb2 a0 a1 a2 b1 r1
      have a0 := b2.cell 0
      have a1 := b2.cell 1
      have a2 := b2.cell 2
      simp at a0 a1 a2
      have lb := b2.lt

      go_wp2_with fail
      go_region_held3 (fun w' => w'.cell? ⟨w.heap.size, 0, none⟩ = some (.int .i64 k1) ∧ w'.cell? ⟨w.heap.size, 1, none⟩ = some (.int .i64 p1) ∧ w'.cell? ⟨w.heap.size, 2, none⟩ = some (.slice A1 z1.length c1))
        (first | go_keep | ((try go_split_ands); (try dsimp only); (repeat' apply And.intro) <;> (first | go_keep | ((refine (hc4 _ _ ?_).trans ?_) <;> first | assumption | omega | (simp <;> omega)) | ((refine (hc3 _ _ ?_).trans ?_) <;> first | assumption | omega | (simp <;> omega)))))
        (first
          | (go_at_call 132; ((with_reducible refine (kyPage_any k1 p1 z1 A1 c1 p _ hbp.1 hbp.2).mono ?_); rintro e w3 ⟨A3, c3, rfl, ho3, hb3⟩; (have s3 : w2.heap.size ≤ w3.heap.size := by have := hb3.size; simpa using this); (have hb3' := (hb'.drew).trans (hb3.mono (by simp; omega))); (have hc3 := (bcell hb3).1)))
          | (go_at_call 132; ((with_reducible refine (kyPage_any k1 p1 z1 A1 c1 q _ hbq.1 hbq.2).mono ?_); rintro e w4 ⟨A4, c4, rfl, ho4, hb4⟩; (have s4 : w3.heap.size ≤ w4.heap.size := hb4.size); (have hb4' := hb3'.trans (hb4.mono (by omega))); (have hop := ho3.st hb4); (have hc4 := (bcell hb4).1))))
      have rp := hop.rd'.std
      have rq := ho4.rd'.std
      have hB := Lib.hid hb4'
      clear hb' hb3' hb4' hb3 hb4 hc3 hc4 hop ho3 ho4 a0 a1 a2
      go_wp2

      go_loopw [10, 11, 12, 31] (fun v _ _ i wr => ∃ k : Nat, k ≤ 20 ∧ i = .int .i64 k ∧ Own wr w4.heap.size wr.heap.size v (snTo (pageL k1 p) (pageL k1 q) k) ∧ Below w4.heap.size w4 wr) (fun _ _ _ i _ => 20 - (intOf i).toNat)
      case atStart => exact ⟨0, by omega, rfl, Own.nil, Below.refl _ _⟩
      case round =>
        obtain ⟨k, hk, rfl, hown, hbr⟩ := hrel
        have hdl := snTo_len (pageL k1 p) (pageL k1 q) k
        by_cases hlt : k < 20
        · have hlp : k < (pageL k1 p).length := by rw [lpH.out]; exact hlt
          have hlq : k < (pageL k1 q).length := by rw [lqH.out]; exact hlt
          have rrp := rp.below hbr (Nat.le_refl _)
          have rrq := rq.below hbr (Nat.le_refl _)
          obtain ⟨bp, op, rfl, _, _, hcp⟩ := rrp (by omega)
          obtain ⟨bq, oq, rfl, _, _, hcq⟩ := rrq (by omega)
          have hckp := hcp k hlp
          have hckq := hcq k hlq
          have gp : (pageL k1 p)[k]? = some (pageL k1 p)[k] := List.getElem?_eq_getElem hlp
          have gq : (pageL k1 q)[k]? = some (pageL k1 q)[k] := List.getElem?_eq_getElem hlq
          have key : ∀ b, ((pageL k1 p)[k] == (pageL k1 q)[k]) = b → Hid (snTo (pageL k1 p) (pageL k1 q) (k + 1) = if b then snTo (pageL k1 p) (pageL k1 q) k ++ [(k : Int)] else snTo (pageL k1 p) (pageL k1 q) k) := by
            intro b hb
            show _ = _
            cases b with
            | true => rw [if_pos rfl]; exact snTo_yes (by rw [gp, gq]; simpa using hb)
            | false => rw [if_neg (by simp)]; exact snTo_no (by rw [gp, gq]; simpa using hb)
          clear hcp hcq rrp rrq gp gq rp rq
          generalize (pageL k1 p)[k] = x at *
          generalize (pageL k1 q)[k] = y at *
          cases he : (x == y) with
          | true =>
            have he' : (y == x) = true := by rw [beq_iff_eq] at he ⊢; exact he.symm
            have hst := key _ he
            clear key
            go_wp2_with (at_builtin; refine wp_append_ints rfl (.tmp 42) (.tmp 44) rfl rfl (hown.alloc _) (ys := [(k : Int)]) rfl ((Rd.one wr _ _ _ rfl).mono (Nat.zero_le _) (by simp)) (by simp; omega) (by simp; exact Nat.le_succ_of_le hbr.size) ?_; intro v2 wz hown2 hg2 hb2 hat2)
            have hb3 : Hid (Below w4.heap.size w4 wz) := (hbr.alloc hbr.size _).trans hb2
            have ho2 := Lib.hid hown2
            clear hown2 hb2 hg2 hat2 hown hbr
            go_roundw
            case rel => exact ⟨k + 1, by omega, by go_num, by rw [hst.out]; exact ho2.out, hb3.out⟩
            case measure => simp [intOf]; omega
          | false =>
            have he' : (y == x) = false := by rw [beq_eq_false_iff_ne] at he ⊢; exact fun h => he h.symm
            have hst := key _ he
            have ho := Lib.hid hown
            clear key hown
            go_wp2
            go_roundw
            case rel => exact ⟨k + 1, by omega, by go_num, by rw [hst.out]; exact ho.out, hbr⟩
            case measure => simp [intOf]; omega
        · obtain rfl : k = 20 := by omega
          obtain ⟨A, c, rfl, -, -⟩ := hown.rd
          have hbb : Hid (Below w.heap.size w wr) := hB.out.trans (hbr.mono (by omega))
          have ho : Hid (Own wr w.heap.size wr.heap.size _ _) := hown.mono (by omega) (Nat.le_refl _)
          have l20 : Hid (((pageL k1 p).length : Int) = 20) := by show _ = _; rw [lpH.out]; rfl
          have hge : ¬ (20 : Int) < ((pageL k1 p).length : Int) := by rw [l20.out]; omega
          clear hown hbr rp rq
          go_wp2
          go_ret2
          exact SpecZB.mk rfl rfl hv2.out.symm ho.out hlen hbb.out

set_option maxHeartbeats 2000000 in
theorem iSameNumbers_any (k1 p1 : Int) (z1 : List Int) (A1 : Option Addr) (c1 : Nat) (p q : Int) {l h : Nat} (w : World) (hr : Rd w l h A1 z1) (hl : z1.length ≤ 1048576) :
    Calls Try.prog 65 #[.agg #[.int .i64 k1, .int .i64 p1, .slice A1 z1.length c1], .int .i64 p, .int .i64 q] w (ImplZB (snL k1 p1 z1 p q) (snB k1 p1 z1 p q) w) := by
  have hlen : (snL k1 p1 z1 p q).length ≤ 1048576 := Nat.le_trans (snL_len k1 p1 z1 p q) (by omega)
  cases h1 : pgB k1 p1 z1 p with
  | false =>
    have hv : snL k1 p1 z1 p q = [] := by simp [snL, snB, h1]
    have hv2 := Lib.hid (show snB k1 p1 z1 p q = false by simp [snB, h1])
    rw [hv] at hlen ⊢
    clear hv
    go_enter Try.func65, Try.ntmps65
    go_wp2_with (go_at_call 129; refine (isPage_any k1 p1 z1 A1 c1 p _ (hr.alloc _) hl).mono ?_; rintro e w1 ⟨rfl, hb1⟩)
    go_ret2
    exact ImplZB.nil rfl hv2.out.symm (((Below.refl w.heap.size w).alloc (Nat.le_refl _) _).trans (hb1.mono (by simp)))
  | true =>
    have hbp := pgB_bd h1
    cases h2 : pgB k1 p1 z1 q with
    | false =>
      have hv : snL k1 p1 z1 p q = [] := by simp [snL, snB, h1, h2]
      have hv2 := Lib.hid (show snB k1 p1 z1 p q = false by simp [snB, h1, h2])
      rw [hv] at hlen ⊢
      clear hv
      go_enter Try.func65, Try.ntmps65
      go_wp2_with fail
      refine (isPage_any k1 p1 z1 A1 c1 p _ (hr.alloc _) hl).mono ?_
      rintro e w1 ⟨rfl, hb1⟩
      have hb := ((Below.refl w.heap.size w).alloc (Nat.le_refl _) _).trans (hb1.mono (by simp))
      have b1 := (Bk.new w _ _).st hb1
      have r1 := (hr.alloc _).st hb1
      have a0 := b1.cell 0
      have a1 := b1.cell 1
      have a2 := b1.cell 2
      simp at a0 a1 a2
      have s1 : w.heap.size + 1 ≤ w1.heap.size := by have := hb1.size; simpa using this
      clear hb1 b1
      go_wp2_with fail
      refine (isPage_any k1 p1 z1 A1 c1 q _ r1 hl).mono ?_
      rintro e w2 ⟨rfl, hb2⟩
      have hb' := hb.trans (hb2.mono (by omega))
      clear hb hb2 a0 a1 a2
      go_wp2
      go_ret2
      exact ImplZB.nil rfl hv2.out.symm hb'
    | true =>
      have hbq := pgB_bd h2
      have hv : snL k1 p1 z1 p q = snTo (pageL k1 p) (pageL k1 q) 20 := by simp [snL, snB, h1, h2]
      have hv2 := Lib.hid (show snB k1 p1 z1 p q = true by simp [snB, h1, h2])
      rw [hv] at hlen ⊢
      clear hv
      have lp : (pageL k1 p).length = 20 := pageL_len k1 p
      have lq : (pageL k1 q).length = 20 := pageL_len k1 q
      have lpH := Lib.hid lp
      have lqH := Lib.hid lq
      go_enter Try.func65, Try.ntmps65
      clear lp lq
      go_wp2_with fail
      refine (isPage_any k1 p1 z1 A1 c1 p _ (hr.alloc _) hl).mono ?_
      rintro e w1 ⟨rfl, hb1⟩
      have hb := ((Below.refl w.heap.size w).alloc (Nat.le_refl _) _).trans (hb1.mono (by simp))
      have b1 := (Bk.new w _ _).st hb1
      have r1 := (hr.alloc _).st hb1
      have a0 := b1.cell 0
      have a1 := b1.cell 1
      have a2 := b1.cell 2
      simp at a0 a1 a2
      have s1 : w.heap.size + 1 ≤ w1.heap.size := by have := hb1.size; simpa using this
      clear hb1
      go_wp2_with fail
      refine (isPage_any k1 p1 z1 A1 c1 q _ r1 hl).mono ?_
      rintro e w2 ⟨rfl, hb2⟩
      have s2 := hb2.size
      have hb' := hb.trans (hb2.mono (by omega))
      have b2 := b1.st hb2
      clear hb hb2 a0 a1 a2 b1 r1
      have a0 := b2.cell 0
      have a1 := b2.cell 1
      have a2 := b2.cell 2
      simp at a0 a1 a2
      have lb := b2.lt

      go_wp2_with fail
      refine (pageOf_any k1 p1 z1 A1 c1 q _ hbq.1 hbq.2).mono ?_
      rintro e w3 ⟨A4, c4, rfl, ho4, hb3⟩
      have s3 := hb3.size
      have hb3' := hb'.trans (hb3.mono (by omega))
      have b3 := b2.st hb3
      clear hb' hb3 a0 a1 a2 b2 lb
      have a0 := b3.cell 0
      have a1 := b3.cell 1
      have a2 := b3.cell 2
      simp at a0 a1 a2
      go_wp2_with fail
      refine (pageOf_any k1 p1 z1 A1 c1 p _ hbp.1 hbp.2).mono ?_
      rintro e w4 ⟨A3, c3, rfl, hop, hb4⟩
      have s4 := hb4.size
      have hb4' := hb3'.trans (hb4.mono (by omega))
      have rp := hop.rd'.std
      have rq := (ho4.st hb4).rd'.std
      have hB := Lib.hid hb4'
      clear hb3' hb4 hb4' hop ho4 a0 a1 a2 b3
      go_wp2

      go_loopw [9, 10, 11, 29] (fun v _ _ i wr => ∃ k : Nat, k ≤ 20 ∧ i = .int .i64 k ∧ Own wr w4.heap.size wr.heap.size v (snTo (pageL k1 p) (pageL k1 q) k) ∧ Below w4.heap.size w4 wr) (fun _ _ _ i _ => 20 - (intOf i).toNat)
      case atStart => exact ⟨0, by omega, rfl, Own.nil, Below.refl _ _⟩
      case round =>
        obtain ⟨k, hk, rfl, hown, hbr⟩ := hrel
        have hdl := snTo_len (pageL k1 p) (pageL k1 q) k
        by_cases hlt : k < 20
        · have hlp : k < (pageL k1 p).length := by rw [lpH.out]; exact hlt
          have hlq : k < (pageL k1 q).length := by rw [lqH.out]; exact hlt
          have rrp := rp.below hbr (Nat.le_refl _)
          have rrq := rq.below hbr (Nat.le_refl _)
          obtain ⟨bp, op, rfl, _, _, hcp⟩ := rrp (by omega)
          obtain ⟨bq, oq, rfl, _, _, hcq⟩ := rrq (by omega)
          have hckp := hcp k hlp
          have hckq := hcq k hlq
          have gp : (pageL k1 p)[k]? = some (pageL k1 p)[k] := List.getElem?_eq_getElem hlp
          have gq : (pageL k1 q)[k]? = some (pageL k1 q)[k] := List.getElem?_eq_getElem hlq
          have key : ∀ b, ((pageL k1 p)[k] == (pageL k1 q)[k]) = b → Hid (snTo (pageL k1 p) (pageL k1 q) (k + 1) = if b then snTo (pageL k1 p) (pageL k1 q) k ++ [(k : Int)] else snTo (pageL k1 p) (pageL k1 q) k) := by
            intro b hb
            show _ = _
            cases b with
            | true => rw [if_pos rfl]; exact snTo_yes (by rw [gp, gq]; simpa using hb)
            | false => rw [if_neg (by simp)]; exact snTo_no (by rw [gp, gq]; simpa using hb)
          clear hcp hcq rrp rrq gp gq rp rq
          generalize (pageL k1 p)[k] = x at *
          generalize (pageL k1 q)[k] = y at *
          cases he : (x == y) with
          | true =>
            have he' : (y == x) = true := by rw [beq_iff_eq] at he ⊢; exact he.symm
            have hst := key _ he
            clear key
            go_wp2_with (at_builtin; refine wp_append_ints rfl (.tmp 40) (.tmp 42) rfl rfl (hown.alloc _) (ys := [(k : Int)]) rfl ((Rd.one wr _ _ _ rfl).mono (Nat.zero_le _) (by simp)) (by simp; omega) (by simp; exact Nat.le_succ_of_le hbr.size) ?_; intro v2 wz hown2 hg2 hb2 hat2)
            have hb3 : Hid (Below w4.heap.size w4 wz) := (hbr.alloc hbr.size _).trans hb2
            have ho2 := Lib.hid hown2
            clear hown2 hb2 hg2 hat2 hown hbr
            go_roundw
            case rel => exact ⟨k + 1, by omega, by go_num, by rw [hst.out]; exact ho2.out, hb3.out⟩
            case measure => simp [intOf]; omega
          | false =>
            have he' : (y == x) = false := by rw [beq_eq_false_iff_ne] at he ⊢; exact fun h => he h.symm
            have hst := key _ he
            have ho := Lib.hid hown
            clear key hown
            go_wp2
            go_roundw
            case rel => exact ⟨k + 1, by omega, by go_num, by rw [hst.out]; exact ho.out, hbr⟩
            case measure => simp [intOf]; omega
        · obtain rfl : k = 20 := by omega
          obtain ⟨A, c, rfl, -, -⟩ := hown.rd
          have hbb : Hid (Below w.heap.size w wr) := hB.out.trans (hbr.mono (by omega))
          have ho : Hid (Own wr w.heap.size wr.heap.size _ _) := hown.mono (by omega) (Nat.le_refl _)
          have l20 : Hid (((pageL k1 p).length : Int) = 20) := by show _ = _; rw [lpH.out]; rfl
          have hge : ¬ (20 : Int) < ((pageL k1 p).length : Int) := by rw [l20.out]; omega
          clear hown hbr rp rq
          go_wp2
          go_ret2
          exact ImplZB.mk rfl rfl hv2.out.symm ho.out (Nat.le_refl _) hlen hbb.out

end Go.Proofs.Ytbagliaelolhcaa
