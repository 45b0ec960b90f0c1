/-
  Contracts of ChangedPlaces. The conditions are bounds on lengths, and room for what the reference reads.
-/
import Derived.Test.YtdonggpcabkmlaaSecret
import Derived.Test.YtdonggpcabkmlaaSame
namespace Go.Proofs.Ytdonggpcabkmlaa
open Go.RowKit Go.ChangeShapes Go.WideShapes
set_option linter.unusedVariables false
set_option linter.unusedSimpArgs false

def cpB (y1 z1 y2 z2 : List Int) : Bool := scB y1 z1 && (scB y2 z2 && (eqL y1 y2 && ((z1.length : Int) == (z2.length : Int))))
/-- the places below k at which two lists differ -/
def cpTo (x y : List Int) (k : Nat) : List Int := ((List.range k).filter fun i => !(x[i]? == y[i]?)).map fun i : Nat => (i : Int)
theorem cpTo_len (x y : List Int) (k : Nat) : (cpTo x y k).length ≤ k := by
  unfold cpTo; rw [List.length_map]; exact Nat.le_trans (List.length_filter_le _ _) (by simp)
theorem cpTo_zero (x y : List Int) : cpTo x y 0 = [] := rfl
theorem cpTo_yes {x y : List Int} {k : Nat} (h1 : k < x.length) (h2 : k < y.length) (h : (x[k] != y[k]) = true) : cpTo x y (k + 1) = cpTo x y k ++ [(k : Int)] := by
  simp only [bne_iff_ne, ne_eq] at h
  unfold cpTo; rw [List.range_succ, List.filter_append, List.map_append]; simp [h1, h2, h]
theorem cpTo_no {x y : List Int} {k : Nat} (h1 : k < x.length) (h2 : k < y.length) (h : (x[k] != y[k]) = false) : cpTo x y (k + 1) = cpTo x y k := by
  simp only [bne_eq_false_iff_eq] at h
  unfold cpTo; rw [List.range_succ, List.filter_append, List.map_append]; simp [h1, h2, h]
def cpL (y1 z1 y2 z2 : List Int) : List Int := if cpB y1 z1 y2 z2 then cpTo z1 z2 z1.length else []
theorem cpL_no {y1 z1 y2 z2 : List Int} (h : cpB y1 z1 y2 z2 = false) : cpL y1 z1 y2 z2 = [] := by simp [cpL, h]
theorem cpL_yes {y1 z1 y2 z2 : List Int} (h : cpB y1 z1 y2 z2 = true) : cpL y1 z1 y2 z2 = cpTo z1 z2 z1.length := by simp [cpL, h]
theorem cpL_len (y1 z1 y2 z2 : List Int) : (cpL y1 z1 y2 z2).length ≤ z1.length := by
  unfold cpL; split
  · exact cpTo_len _ _ _
  · simp
theorem scGood_v (y1 : List Int) (A1 : Option Addr) (c1 : Nat) (z1 : List Int) (B1 : Option Addr) (d1 : Nat) {l h l' h' : Nat} (w : World) (hr1 : Rd w l h A1 y1) (hr2 : Rd w l' h' B1 z1) (hl1 : y1.length ≤ 1048576) (hl2 : z1.length ≤ 1048576) (hcap : y1.length ≤ c1) (v : Bool) (hv : scB y1 z1 = v) :
    Calls Try.prog 58 #[.agg #[.slice A1 y1.length c1, .slice B1 z1.length d1]] w fun e w' => e = .returned (.bool v) ∧ Below w.heap.size w w' := by
  subst hv; exact scGood_any y1 A1 c1 z1 B1 d1 w hr1 hr2 hl1 hl2 hcap
theorem iIsSecret_v (y1 : List Int) (A1 : Option Addr) (c1 : Nat) (z1 : List Int) (B1 : Option Addr) (d1 : Nat) {l h l' h' : Nat} (w : World) (hr1 : Rd w l h A1 y1) (hr2 : Rd w l' h' B1 z1) (hl1 : y1.length ≤ 1048576) (hl2 : z1.length ≤ 1048576) (v : Bool) (hv : scB y1 z1 = v) :
    Calls Try.prog 60 #[.agg #[.slice A1 y1.length c1, .slice B1 z1.length d1]] w fun e w' => e = .returned (.bool v) ∧ Below w.heap.size w w' := by
  subst hv; exact iIsSecret_any y1 A1 c1 z1 B1 d1 w hr1 hr2 hl1 hl2

set_option maxHeartbeats 4000000 in
theorem sChangedPlaces_any (y1 : List Int) (A1 : Option Addr) (c1 : Nat) (z1 : List Int) (B1 : Option Addr) (d1 : Nat) (y2 : List Int) (A2 : Option Addr) (c2 : Nat) (z2 : List Int) (B2 : Option Addr) (d2 : Nat) {l1 h1 l2 h2 l3 h3 l4 h4 : Nat} (w : World)
    (ry10 : Rd w l1 h1 A1 y1) (rz10 : Rd w l2 h2 B1 z1) (ry20 : Rd w l3 h3 A2 y2) (rz20 : Rd w l4 h4 B2 z2) (hy1 : y1.length ≤ 1048576) (hz1 : z1.length ≤ 1048576) (hy2 : y2.length ≤ 1048576) (hz2 : z2.length ≤ 1048576) (hcap1 : y1.length ≤ c1) (hcap2 : y2.length ≤ c2) :
    Calls Try.prog 22 #[.agg #[.slice A1 y1.length c1, .slice B1 z1.length d1], .agg #[.slice A2 y2.length c2, .slice B2 z2.length d2]] w (SpecZB (cpL y1 z1 y2 z2) (cpB y1 z1 y2 z2) w) := by
  have ry1 := ry10.std
  have rz1 := rz10.std
  have ry2 := ry20.std
  have rz2 := rz20.std
  clear ry10 rz10 ry20 rz20
  cases h1 : scB y1 z1 with
  | false =>
    have hb0 : cpB y1 z1 y2 z2 = false := by simp [cpB, h1]
    rw [cpL_no hb0]
    have hv2 := Lib.hid hb0
    clear hb0
    go_enter Try.func22, Try.ntmps22
    go_wp2_with fail
    (with_reducible refine (scGood_v y1 A1 c1 z1 B1 d1 _ ((ry1.alloc _).alloc _) ((rz1.alloc _).alloc _) hy1 hz1 hcap1 _ h1).mono ?_)
    rintro e w1 ⟨rfl, hb1⟩
    have s1 : w.heap.size + 2 ≤ w1.heap.size := by have := hb1.size; simpa using this
    have B1w : Below w.heap.size w w1 := (((Below.refl w.heap.size w).alloc (Nat.le_refl _) _).alloc (by simp) _).trans (hb1.mono (by simp; omega))
    have k1_1 := ((Bk.new w _ _).alloc _).st hb1
    have k2_1 := (Bk.new2 w _ _ _).st hb1
    have ry1_1 := ((ry1.alloc _).alloc _).st hb1
    have rz1_1 := ((rz1.alloc _).alloc _).st hb1
    have ry2_1 := ((ry2.alloc _).alloc _).st hb1
    have rz2_1 := ((rz2.alloc _).alloc _).st hb1
    clear hb1
    have x1_1 := k1_1.lt
    have x2_1 := k2_1.lt
    have a0 := k1_1.cell 0
    have a1 := k1_1.cell 1
    have b0 := k2_1.cell 0
    have b1 := k2_1.cell 1
    simp at a0 a1 b0 b1
    go_wp2
    go_ret2
    exact SpecZB.nil rfl hv2.out.symm B1w
  | true =>
    cases h2 : scB y2 z2 with
    | false =>
      have hb0 : cpB y1 z1 y2 z2 = false := by simp [cpB, h1, h2]
      rw [cpL_no hb0]
      have hv2 := Lib.hid hb0
      clear hb0
      go_enter Try.func22, Try.ntmps22
      go_wp2_with fail
      (with_reducible refine (scGood_v y1 A1 c1 z1 B1 d1 _ ((ry1.alloc _).alloc _) ((rz1.alloc _).alloc _) hy1 hz1 hcap1 _ h1).mono ?_)
      rintro e w1 ⟨rfl, hb1⟩
      have s1 : w.heap.size + 2 ≤ w1.heap.size := by have := hb1.size; simpa using this
      have B1w : Below w.heap.size w w1 := (((Below.refl w.heap.size w).alloc (Nat.le_refl _) _).alloc (by simp) _).trans (hb1.mono (by simp; omega))
      have k1_1 := ((Bk.new w _ _).alloc _).st hb1
      have k2_1 := (Bk.new2 w _ _ _).st hb1
      have ry1_1 := ((ry1.alloc _).alloc _).st hb1
      have rz1_1 := ((rz1.alloc _).alloc _).st hb1
      have ry2_1 := ((ry2.alloc _).alloc _).st hb1
      have rz2_1 := ((rz2.alloc _).alloc _).st hb1
      clear hb1
      have x1_1 := k1_1.lt
      have x2_1 := k2_1.lt
      have a0 := k1_1.cell 0
      have a1 := k1_1.cell 1
      have b0 := k2_1.cell 0
      have b1 := k2_1.cell 1
      simp at a0 a1 b0 b1
      go_wp2_with fail
      (with_reducible refine (scGood_v y2 A2 c2 z2 B2 d2 _ ry2_1 rz2_1 hy2 hz2 hcap2 _ h2).mono ?_)
      rintro e w2 ⟨rfl, hb2⟩
      have s2 : w1.heap.size ≤ w2.heap.size := hb2.size
      have B2w : Below w.heap.size w w2 := B1w.trans (hb2.mono (by omega))
      have k1_2 := k1_1.st hb2
      have k2_2 := k2_1.st hb2
      have ry1_2 := ry1_1.st hb2
      have rz1_2 := rz1_1.st hb2
      have ry2_2 := ry2_1.st hb2
      have rz2_2 := rz2_1.st hb2
      clear hb2 k1_1 k2_1 ry1_1 rz1_1 ry2_1 rz2_1 x1_1 x2_1 a0 a1 b0 b1
      have x1_2 := k1_2.lt
      have x2_2 := k2_2.lt
      have a0 := k1_2.cell 0
      have a1 := k1_2.cell 1
      have b0 := k2_2.cell 0
      have b1 := k2_2.cell 1
      simp at a0 a1 b0 b1
      go_wp2
      go_ret2
      exact SpecZB.nil rfl hv2.out.symm B2w
    | true =>
      cases h3 : eqL y1 y2 with
      | false =>
        have hb0 : cpB y1 z1 y2 z2 = false := by simp [cpB, h1, h2, h3]
        rw [cpL_no hb0]
        have hv2 := Lib.hid hb0
        clear hb0
        go_enter Try.func22, Try.ntmps22
        go_wp2_with fail
        (with_reducible refine (scGood_v y1 A1 c1 z1 B1 d1 _ ((ry1.alloc _).alloc _) ((rz1.alloc _).alloc _) hy1 hz1 hcap1 _ h1).mono ?_)
        rintro e w1 ⟨rfl, hb1⟩
        have s1 : w.heap.size + 2 ≤ w1.heap.size := by have := hb1.size; simpa using this
        have B1w : Below w.heap.size w w1 := (((Below.refl w.heap.size w).alloc (Nat.le_refl _) _).alloc (by simp) _).trans (hb1.mono (by simp; omega))
        have k1_1 := ((Bk.new w _ _).alloc _).st hb1
        have k2_1 := (Bk.new2 w _ _ _).st hb1
        have ry1_1 := ((ry1.alloc _).alloc _).st hb1
        have rz1_1 := ((rz1.alloc _).alloc _).st hb1
        have ry2_1 := ((ry2.alloc _).alloc _).st hb1
        have rz2_1 := ((rz2.alloc _).alloc _).st hb1
        clear hb1
        have x1_1 := k1_1.lt
        have x2_1 := k2_1.lt
        have a0 := k1_1.cell 0
        have a1 := k1_1.cell 1
        have b0 := k2_1.cell 0
        have b1 := k2_1.cell 1
        simp at a0 a1 b0 b1
        go_wp2_with fail
        (with_reducible refine (scGood_v y2 A2 c2 z2 B2 d2 _ ry2_1 rz2_1 hy2 hz2 hcap2 _ h2).mono ?_)
        rintro e w2 ⟨rfl, hb2⟩
        have s2 : w1.heap.size ≤ w2.heap.size := hb2.size
        have B2w : Below w.heap.size w w2 := B1w.trans (hb2.mono (by omega))
        have k1_2 := k1_1.st hb2
        have k2_2 := k2_1.st hb2
        have ry1_2 := ry1_1.st hb2
        have rz1_2 := rz1_1.st hb2
        have ry2_2 := ry2_1.st hb2
        have rz2_2 := rz2_1.st hb2
        clear hb2 k1_1 k2_1 ry1_1 rz1_1 ry2_1 rz2_1 x1_1 x2_1 a0 a1 b0 b1
        have x1_2 := k1_2.lt
        have x2_2 := k2_2.lt
        have a0 := k1_2.cell 0
        have a1 := k1_2.cell 1
        have b0 := k2_2.cell 0
        have b1 := k2_2.cell 1
        simp at a0 a1 b0 b1
        go_wp2_with fail
        (with_reducible refine (l1Same_v y1 y2 A1 A2 c1 c2 _ ry1_2 ry2_2 (by omega) (by omega) _ h3).mono ?_)
        rintro e w3 ⟨rfl, hb3⟩
        have s3 : w2.heap.size ≤ w3.heap.size := hb3.size
        have B3w : Below w.heap.size w w3 := B2w.trans (hb3.mono (by omega))
        have k1_3 := k1_2.st hb3
        have k2_3 := k2_2.st hb3
        have ry1_3 := ry1_2.st hb3
        have rz1_3 := rz1_2.st hb3
        have ry2_3 := ry2_2.st hb3
        have rz2_3 := rz2_2.st hb3
        clear hb3 k1_2 k2_2 ry1_2 rz1_2 ry2_2 rz2_2 x1_2 x2_2 a0 a1 b0 b1
        have x1_3 := k1_3.lt
        have x2_3 := k2_3.lt
        have a0 := k1_3.cell 0
        have a1 := k1_3.cell 1
        have b0 := k2_3.cell 0
        have b1 := k2_3.cell 1
        simp at a0 a1 b0 b1
        go_wp2
        go_ret2
        exact SpecZB.nil rfl hv2.out.symm B3w
      | true =>
        by_cases h4 : z1.length = z2.length
        · have hle : z1.length ≤ z2.length := by omega
          have hge : z2.length ≤ z1.length := by omega
          have hne : ((z1.length : Int) != (z2.length : Int)) = false := by simp [h4]
          have hlen : (cpL y1 z1 y2 z2).length ≤ 1048576 := Nat.le_trans (cpL_len y1 z1 y2 z2) hz1
          have hb0 : cpB y1 z1 y2 z2 = true := by simp [cpB, h1, h2, h3, h4]
          rw [cpL_yes hb0] at hlen ⊢
          have hv2 := Lib.hid hb0
          clear hb0 h4
          go_enter Try.func22, Try.ntmps22
          go_wp2_with fail
          (with_reducible refine (scGood_v y1 A1 c1 z1 B1 d1 _ ((ry1.alloc _).alloc _) ((rz1.alloc _).alloc _) hy1 hz1 hcap1 _ h1).mono ?_)
          rintro e w1 ⟨rfl, hb1⟩
          have s1 : w.heap.size + 2 ≤ w1.heap.size := by have := hb1.size; simpa using this
          have B1w : Below w.heap.size w w1 := (((Below.refl w.heap.size w).alloc (Nat.le_refl _) _).alloc (by simp) _).trans (hb1.mono (by simp; omega))
          have k1_1 := ((Bk.new w _ _).alloc _).st hb1
          have k2_1 := (Bk.new2 w _ _ _).st hb1
          have ry1_1 := ((ry1.alloc _).alloc _).st hb1
          have rz1_1 := ((rz1.alloc _).alloc _).st hb1
          have ry2_1 := ((ry2.alloc _).alloc _).st hb1
          have rz2_1 := ((rz2.alloc _).alloc _).st hb1
          clear hb1
          have x1_1 := k1_1.lt
          have x2_1 := k2_1.lt
          have a0 := k1_1.cell 0
          have a1 := k1_1.cell 1
          have b0 := k2_1.cell 0
          have b1 := k2_1.cell 1
          simp at a0 a1 b0 b1
          go_wp2_with fail
          (with_reducible refine (scGood_v y2 A2 c2 z2 B2 d2 _ ry2_1 rz2_1 hy2 hz2 hcap2 _ h2).mono ?_)
          rintro e w2 ⟨rfl, hb2⟩
          have s2 : w1.heap.size ≤ w2.heap.size := hb2.size
          have B2w : Below w.heap.size w w2 := B1w.trans (hb2.mono (by omega))
          have k1_2 := k1_1.st hb2
          have k2_2 := k2_1.st hb2
          have ry1_2 := ry1_1.st hb2
          have rz1_2 := rz1_1.st hb2
          have ry2_2 := ry2_1.st hb2
          have rz2_2 := rz2_1.st hb2
          clear hb2 k1_1 k2_1 ry1_1 rz1_1 ry2_1 rz2_1 x1_1 x2_1 a0 a1 b0 b1
          have x1_2 := k1_2.lt
          have x2_2 := k2_2.lt
          have a0 := k1_2.cell 0
          have a1 := k1_2.cell 1
          have b0 := k2_2.cell 0
          have b1 := k2_2.cell 1
          simp at a0 a1 b0 b1
          go_wp2_with fail
          (with_reducible refine (l1Same_v y1 y2 A1 A2 c1 c2 _ ry1_2 ry2_2 (by omega) (by omega) _ h3).mono ?_)
          rintro e w3 ⟨rfl, hb3⟩
          have s3 : w2.heap.size ≤ w3.heap.size := hb3.size
          have B3w : Below w.heap.size w w3 := B2w.trans (hb3.mono (by omega))
          have k1_3 := k1_2.st hb3
          have k2_3 := k2_2.st hb3
          have ry1_3 := ry1_2.st hb3
          have rz1_3 := rz1_2.st hb3
          have ry2_3 := ry2_2.st hb3
          have rz2_3 := rz2_2.st hb3
          clear hb3 k1_2 k2_2 ry1_2 rz1_2 ry2_2 rz2_2 x1_2 x2_2 a0 a1 b0 b1
          have x1_3 := k1_3.lt
          have x2_3 := k2_3.lt
          have a0 := k1_3.cell 0
          have a1 := k1_3.cell 1
          have b0 := k2_3.cell 0
          have b1 := k2_3.cell 1
          simp at a0 a1 b0 b1
          go_wp2
          go_loopw [6, 7, 8, 37] (fun v _ _ i wr => ∃ k : Nat, k ≤ z1.length ∧ i = .int .i64 k ∧ Own wr w3.heap.size wr.heap.size v (cpTo z1 z2 k) ∧ Below w3.heap.size w3 wr) (fun _ _ _ i _ => z1.length - (intOf i).toNat)
          case atStart => exact ⟨0, by omega, rfl, Own.nil, Below.refl _ _⟩
          case round =>
            obtain ⟨k, hk, rfl, hown, hbr⟩ := hrel
            have hdl := cpTo_len z1 z2 k
            have szr := hbr.size
            by_cases hlt : k < z1.length
            · have hlt2 : k < z2.length := by omega
              obtain ⟨p1, o1, rfl, _, _, hc1⟩ := (rz1_3.st hbr) (by omega)
              obtain ⟨p2, o2, rfl, _, _, hc2⟩ := (rz2_3.st hbr) (by omega)
              have hck1 := hc1 k hlt
              have hck2 := hc2 k hlt2
              have q2 := k2_3.st hbr
              have b0 := q2.cell 0
              have b1 := q2.cell 1
              have lq2 := q2.lt
              simp at b0 b1
              clear hc1 hc2 q2
              have yes := fun h => Lib.hid (cpTo_yes hlt hlt2 h)
              have no := fun h => Lib.hid (cpTo_no hlt hlt2 h)
              clear a0 a1 x1_3 x2_3
              cases he : (z1[k] != z2[k]) with
              | true =>
                have he' : (z2[k] != z1[k]) = true := by rw [bne_iff_ne] at he ⊢; exact fun h => he h.symm
                have hst := yes he
                clear yes no
                go_wp2_with (at_builtin; refine wp_append_ints rfl (.tmp 49) (.tmp 51) rfl rfl (hown.alloc _) (ys := [(k : Int)]) rfl ((Rd.one wr _ _ _ rfl).mono (Nat.zero_le _) (by simp)) (by simp; omega) (by simp; exact Nat.le_succ_of_le hbr.size) ?_; intro v2 wz hown2 hg2 hb2 hat2)
                have hb3 : Hid (Below w3.heap.size w3 wz) := (hbr.alloc hbr.size _).trans hb2
                have ho2 := Lib.hid hown2
                clear hown2 hb2 hg2 hat2 hown hbr
                go_roundw
                case rel => exact ⟨k + 1, by omega, by go_num, by rw [hst.out]; exact ho2.out, hb3.out⟩
                case measure => simp [intOf]; omega
              | false =>
                have he' : (z2[k] != z1[k]) = false := by rw [bne_eq_false_iff_eq] at he ⊢; exact he.symm
                have hst := no he
                have ho := Lib.hid hown
                clear yes no hown
                go_wp2
                go_roundw
                case rel => exact ⟨k + 1, by omega, by go_num, by rw [hst.out]; exact ho.out, hbr⟩
                case measure => simp [intOf]; omega
            · obtain rfl : k = z1.length := by omega
              obtain ⟨A, c, rfl, -, -⟩ := hown.rd
              have hbb : Hid (Below w.heap.size w wr) := B3w.trans (hbr.mono (by omega))
              have ho : Hid (Own wr w.heap.size wr.heap.size _ _) := hown.mono (by omega) (Nat.le_refl _)
              clear hown hbr
              go_wp2
              go_ret2
              exact SpecZB.mk rfl rfl hv2.out.symm ho.out hlen hbb.out
        · have hne : ((z1.length : Int) != (z2.length : Int)) = true := by simp; omega
          have hb0 : cpB y1 z1 y2 z2 = false := by simp [cpB, h1, h2, h3, h4]; omega
          rw [cpL_no hb0]
          have hv2 := Lib.hid hb0
          clear hb0
          go_enter Try.func22, Try.ntmps22
          go_wp2_with fail
          (with_reducible refine (scGood_v y1 A1 c1 z1 B1 d1 _ ((ry1.alloc _).alloc _) ((rz1.alloc _).alloc _) hy1 hz1 hcap1 _ h1).mono ?_)
          rintro e w1 ⟨rfl, hb1⟩
          have s1 : w.heap.size + 2 ≤ w1.heap.size := by have := hb1.size; simpa using this
          have B1w : Below w.heap.size w w1 := (((Below.refl w.heap.size w).alloc (Nat.le_refl _) _).alloc (by simp) _).trans (hb1.mono (by simp; omega))
          have k1_1 := ((Bk.new w _ _).alloc _).st hb1
          have k2_1 := (Bk.new2 w _ _ _).st hb1
          have ry1_1 := ((ry1.alloc _).alloc _).st hb1
          have rz1_1 := ((rz1.alloc _).alloc _).st hb1
          have ry2_1 := ((ry2.alloc _).alloc _).st hb1
          have rz2_1 := ((rz2.alloc _).alloc _).st hb1
          clear hb1
          have x1_1 := k1_1.lt
          have x2_1 := k2_1.lt
          have a0 := k1_1.cell 0
          have a1 := k1_1.cell 1
          have b0 := k2_1.cell 0
          have b1 := k2_1.cell 1
          simp at a0 a1 b0 b1
          go_wp2_with fail
          (with_reducible refine (scGood_v y2 A2 c2 z2 B2 d2 _ ry2_1 rz2_1 hy2 hz2 hcap2 _ h2).mono ?_)
          rintro e w2 ⟨rfl, hb2⟩
          have s2 : w1.heap.size ≤ w2.heap.size := hb2.size
          have B2w : Below w.heap.size w w2 := B1w.trans (hb2.mono (by omega))
          have k1_2 := k1_1.st hb2
          have k2_2 := k2_1.st hb2
          have ry1_2 := ry1_1.st hb2
          have rz1_2 := rz1_1.st hb2
          have ry2_2 := ry2_1.st hb2
          have rz2_2 := rz2_1.st hb2
          clear hb2 k1_1 k2_1 ry1_1 rz1_1 ry2_1 rz2_1 x1_1 x2_1 a0 a1 b0 b1
          have x1_2 := k1_2.lt
          have x2_2 := k2_2.lt
          have a0 := k1_2.cell 0
          have a1 := k1_2.cell 1
          have b0 := k2_2.cell 0
          have b1 := k2_2.cell 1
          simp at a0 a1 b0 b1
          go_wp2_with fail
          (with_reducible refine (l1Same_v y1 y2 A1 A2 c1 c2 _ ry1_2 ry2_2 (by omega) (by omega) _ h3).mono ?_)
          rintro e w3 ⟨rfl, hb3⟩
          have s3 : w2.heap.size ≤ w3.heap.size := hb3.size
          have B3w : Below w.heap.size w w3 := B2w.trans (hb3.mono (by omega))
          have k1_3 := k1_2.st hb3
          have k2_3 := k2_2.st hb3
          have ry1_3 := ry1_2.st hb3
          have rz1_3 := rz1_2.st hb3
          have ry2_3 := ry2_2.st hb3
          have rz2_3 := rz2_2.st hb3
          clear hb3 k1_2 k2_2 ry1_2 rz1_2 ry2_2 rz2_2 x1_2 x2_2 a0 a1 b0 b1
          have x1_3 := k1_3.lt
          have x2_3 := k2_3.lt
          have a0 := k1_3.cell 0
          have a1 := k1_3.cell 1
          have b0 := k2_3.cell 0
          have b1 := k2_3.cell 1
          simp at a0 a1 b0 b1
          go_wp2
          go_ret2
          exact SpecZB.nil rfl hv2.out.symm B3w
set_option maxHeartbeats 4000000 in
theorem iChangedPlaces_any (y1 : List Int) (A1 : Option Addr) (c1 : Nat) (z1 : List Int) (B1 : Option Addr) (d1 : Nat) (y2 : List Int) (A2 : Option Addr) (c2 : Nat) (z2 : List Int) (B2 : Option Addr) (d2 : Nat) {l1 h1 l2 h2 l3 h3 l4 h4 : Nat} (w : World)
    (ry10 : Rd w l1 h1 A1 y1) (rz10 : Rd w l2 h2 B1 z1) (ry20 : Rd w l3 h3 A2 y2) (rz20 : Rd w l4 h4 B2 z2) (hy1 : y1.length ≤ 1048576) (hz1 : z1.length ≤ 1048576) (hy2 : y2.length ≤ 1048576) (hz2 : z2.length ≤ 1048576) :
    Calls Try.prog 24 #[.agg #[.slice A1 y1.length c1, .slice B1 z1.length d1], .agg #[.slice A2 y2.length c2, .slice B2 z2.length d2]] w (ImplZB (cpL y1 z1 y2 z2) (cpB y1 z1 y2 z2) w) := by
  have ry1 := ry10.std
  have rz1 := rz10.std
  have ry2 := ry20.std
  have rz2 := rz20.std
  clear ry10 rz10 ry20 rz20
  cases h1 : scB y1 z1 with
  | false =>
    have hb0 : cpB y1 z1 y2 z2 = false := by simp [cpB, h1]
    rw [cpL_no hb0]
    have hv2 := Lib.hid hb0
    clear hb0
    go_enter Try.func24, Try.ntmps24
    go_wp2_with fail
    (with_reducible refine (iIsSecret_v y1 A1 c1 z1 B1 d1 _ ((ry1.alloc _).alloc _) ((rz1.alloc _).alloc _) hy1 hz1 _ h1).mono ?_)
    rintro e w1 ⟨rfl, hb1⟩
    have s1 : w.heap.size + 2 ≤ w1.heap.size := by have := hb1.size; simpa using this
    have B1w : Below w.heap.size w w1 := (((Below.refl w.heap.size w).alloc (Nat.le_refl _) _).alloc (by simp) _).trans (hb1.mono (by simp; omega))
    have k1_1 := ((Bk.new w _ _).alloc _).st hb1
    have k2_1 := (Bk.new2 w _ _ _).st hb1
    have ry1_1 := ((ry1.alloc _).alloc _).st hb1
    have rz1_1 := ((rz1.alloc _).alloc _).st hb1
    have ry2_1 := ((ry2.alloc _).alloc _).st hb1
    have rz2_1 := ((rz2.alloc _).alloc _).st hb1
    clear hb1
    have x1_1 := k1_1.lt
    have x2_1 := k2_1.lt
    have a0 := k1_1.cell 0
    have a1 := k1_1.cell 1
    have b0 := k2_1.cell 0
    have b1 := k2_1.cell 1
    simp at a0 a1 b0 b1
    go_wp2
    go_ret2
    exact ImplZB.nil rfl hv2.out.symm B1w
  | true =>
    cases h2 : scB y2 z2 with
    | false =>
      have hb0 : cpB y1 z1 y2 z2 = false := by simp [cpB, h1, h2]
      rw [cpL_no hb0]
      have hv2 := Lib.hid hb0
      clear hb0
      go_enter Try.func24, Try.ntmps24
      go_wp2_with fail
      (with_reducible refine (iIsSecret_v y1 A1 c1 z1 B1 d1 _ ((ry1.alloc _).alloc _) ((rz1.alloc _).alloc _) hy1 hz1 _ h1).mono ?_)
      rintro e w1 ⟨rfl, hb1⟩
      have s1 : w.heap.size + 2 ≤ w1.heap.size := by have := hb1.size; simpa using this
      have B1w : Below w.heap.size w w1 := (((Below.refl w.heap.size w).alloc (Nat.le_refl _) _).alloc (by simp) _).trans (hb1.mono (by simp; omega))
      have k1_1 := ((Bk.new w _ _).alloc _).st hb1
      have k2_1 := (Bk.new2 w _ _ _).st hb1
      have ry1_1 := ((ry1.alloc _).alloc _).st hb1
      have rz1_1 := ((rz1.alloc _).alloc _).st hb1
      have ry2_1 := ((ry2.alloc _).alloc _).st hb1
      have rz2_1 := ((rz2.alloc _).alloc _).st hb1
      clear hb1
      have x1_1 := k1_1.lt
      have x2_1 := k2_1.lt
      have a0 := k1_1.cell 0
      have a1 := k1_1.cell 1
      have b0 := k2_1.cell 0
      have b1 := k2_1.cell 1
      simp at a0 a1 b0 b1
      go_wp2_with fail
      (with_reducible refine (iIsSecret_v y2 A2 c2 z2 B2 d2 _ ry2_1 rz2_1 hy2 hz2 _ h2).mono ?_)
      rintro e w2 ⟨rfl, hb2⟩
      have s2 : w1.heap.size ≤ w2.heap.size := hb2.size
      have B2w : Below w.heap.size w w2 := B1w.trans (hb2.mono (by omega))
      have k1_2 := k1_1.st hb2
      have k2_2 := k2_1.st hb2
      have ry1_2 := ry1_1.st hb2
      have rz1_2 := rz1_1.st hb2
      have ry2_2 := ry2_1.st hb2
      have rz2_2 := rz2_1.st hb2
      clear hb2 k1_1 k2_1 ry1_1 rz1_1 ry2_1 rz2_1 x1_1 x2_1 a0 a1 b0 b1
      have x1_2 := k1_2.lt
      have x2_2 := k2_2.lt
      have a0 := k1_2.cell 0
      have a1 := k1_2.cell 1
      have b0 := k2_2.cell 0
      have b1 := k2_2.cell 1
      simp at a0 a1 b0 b1
      go_wp2
      go_ret2
      exact ImplZB.nil rfl hv2.out.symm B2w
    | true =>
      cases h3 : eqL y1 y2 with
      | false =>
        have hb0 : cpB y1 z1 y2 z2 = false := by simp [cpB, h1, h2, h3]
        rw [cpL_no hb0]
        have hv2 := Lib.hid hb0
        clear hb0
        go_enter Try.func24, Try.ntmps24
        go_wp2_with fail
        (with_reducible refine (iIsSecret_v y1 A1 c1 z1 B1 d1 _ ((ry1.alloc _).alloc _) ((rz1.alloc _).alloc _) hy1 hz1 _ h1).mono ?_)
        rintro e w1 ⟨rfl, hb1⟩
        have s1 : w.heap.size + 2 ≤ w1.heap.size := by have := hb1.size; simpa using this
        have B1w : Below w.heap.size w w1 := (((Below.refl w.heap.size w).alloc (Nat.le_refl _) _).alloc (by simp) _).trans (hb1.mono (by simp; omega))
        have k1_1 := ((Bk.new w _ _).alloc _).st hb1
        have k2_1 := (Bk.new2 w _ _ _).st hb1
        have ry1_1 := ((ry1.alloc _).alloc _).st hb1
        have rz1_1 := ((rz1.alloc _).alloc _).st hb1
        have ry2_1 := ((ry2.alloc _).alloc _).st hb1
        have rz2_1 := ((rz2.alloc _).alloc _).st hb1
        clear hb1
        have x1_1 := k1_1.lt
        have x2_1 := k2_1.lt
        have a0 := k1_1.cell 0
        have a1 := k1_1.cell 1
        have b0 := k2_1.cell 0
        have b1 := k2_1.cell 1
        simp at a0 a1 b0 b1
        go_wp2_with fail
        (with_reducible refine (iIsSecret_v y2 A2 c2 z2 B2 d2 _ ry2_1 rz2_1 hy2 hz2 _ h2).mono ?_)
        rintro e w2 ⟨rfl, hb2⟩
        have s2 : w1.heap.size ≤ w2.heap.size := hb2.size
        have B2w : Below w.heap.size w w2 := B1w.trans (hb2.mono (by omega))
        have k1_2 := k1_1.st hb2
        have k2_2 := k2_1.st hb2
        have ry1_2 := ry1_1.st hb2
        have rz1_2 := rz1_1.st hb2
        have ry2_2 := ry2_1.st hb2
        have rz2_2 := rz2_1.st hb2
        clear hb2 k1_1 k2_1 ry1_1 rz1_1 ry2_1 rz2_1 x1_1 x2_1 a0 a1 b0 b1
        have x1_2 := k1_2.lt
        have x2_2 := k2_2.lt
        have a0 := k1_2.cell 0
        have a1 := k1_2.cell 1
        have b0 := k2_2.cell 0
        have b1 := k2_2.cell 1
        simp at a0 a1 b0 b1
        go_wp2_with fail
        (with_reducible refine (slEqual_v y1 y2 A1 A2 c1 c2 _ ry1_2 ry2_2 (by omega) (by omega) _ h3).mono ?_)
        rintro e w3 ⟨rfl, hb3⟩
        have s3 : w2.heap.size ≤ w3.heap.size := hb3.size
        have B3w : Below w.heap.size w w3 := B2w.trans (hb3.mono (by omega))
        have k1_3 := k1_2.st hb3
        have k2_3 := k2_2.st hb3
        have ry1_3 := ry1_2.st hb3
        have rz1_3 := rz1_2.st hb3
        have ry2_3 := ry2_2.st hb3
        have rz2_3 := rz2_2.st hb3
        clear hb3 k1_2 k2_2 ry1_2 rz1_2 ry2_2 rz2_2 x1_2 x2_2 a0 a1 b0 b1
        have x1_3 := k1_3.lt
        have x2_3 := k2_3.lt
        have a0 := k1_3.cell 0
        have a1 := k1_3.cell 1
        have b0 := k2_3.cell 0
        have b1 := k2_3.cell 1
        simp at a0 a1 b0 b1
        go_wp2
        go_ret2
        exact ImplZB.nil rfl hv2.out.symm B3w
      | true =>
        by_cases h4 : z1.length = z2.length
        · have hle : z1.length ≤ z2.length := by omega
          have hge : z2.length ≤ z1.length := by omega
          have hne : ((z1.length : Int) != (z2.length : Int)) = false := by simp [h4]
          have hlen : (cpL y1 z1 y2 z2).length ≤ 1048576 := Nat.le_trans (cpL_len y1 z1 y2 z2) hz1
          have hb0 : cpB y1 z1 y2 z2 = true := by simp [cpB, h1, h2, h3, h4]
          rw [cpL_yes hb0] at hlen ⊢
          have hv2 := Lib.hid hb0
          clear hb0 h4
          go_enter Try.func24, Try.ntmps24
          go_wp2_with fail
          (with_reducible refine (iIsSecret_v y1 A1 c1 z1 B1 d1 _ ((ry1.alloc _).alloc _) ((rz1.alloc _).alloc _) hy1 hz1 _ h1).mono ?_)
          rintro e w1 ⟨rfl, hb1⟩
          have s1 : w.heap.size + 2 ≤ w1.heap.size := by have := hb1.size; simpa using this
          have B1w : Below w.heap.size w w1 := (((Below.refl w.heap.size w).alloc (Nat.le_refl _) _).alloc (by simp) _).trans (hb1.mono (by simp; omega))
          have k1_1 := ((Bk.new w _ _).alloc _).st hb1
          have k2_1 := (Bk.new2 w _ _ _).st hb1
          have ry1_1 := ((ry1.alloc _).alloc _).st hb1
          have rz1_1 := ((rz1.alloc _).alloc _).st hb1
          have ry2_1 := ((ry2.alloc _).alloc _).st hb1
          have rz2_1 := ((rz2.alloc _).alloc _).st hb1
          clear hb1
          have x1_1 := k1_1.lt
          have x2_1 := k2_1.lt
          have a0 := k1_1.cell 0
          have a1 := k1_1.cell 1
          have b0 := k2_1.cell 0
          have b1 := k2_1.cell 1
          simp at a0 a1 b0 b1
          go_wp2_with fail
          (with_reducible refine (iIsSecret_v y2 A2 c2 z2 B2 d2 _ ry2_1 rz2_1 hy2 hz2 _ h2).mono ?_)
          rintro e w2 ⟨rfl, hb2⟩
          have s2 : w1.heap.size ≤ w2.heap.size := hb2.size
          have B2w : Below w.heap.size w w2 := B1w.trans (hb2.mono (by omega))
          have k1_2 := k1_1.st hb2
          have k2_2 := k2_1.st hb2
          have ry1_2 := ry1_1.st hb2
          have rz1_2 := rz1_1.st hb2
          have ry2_2 := ry2_1.st hb2
          have rz2_2 := rz2_1.st hb2
          clear hb2 k1_1 k2_1 ry1_1 rz1_1 ry2_1 rz2_1 x1_1 x2_1 a0 a1 b0 b1
          have x1_2 := k1_2.lt
          have x2_2 := k2_2.lt
          have a0 := k1_2.cell 0
          have a1 := k1_2.cell 1
          have b0 := k2_2.cell 0
          have b1 := k2_2.cell 1
          simp at a0 a1 b0 b1
          go_wp2_with fail
          (with_reducible refine (slEqual_v y1 y2 A1 A2 c1 c2 _ ry1_2 ry2_2 (by omega) (by omega) _ h3).mono ?_)
          rintro e w3 ⟨rfl, hb3⟩
          have s3 : w2.heap.size ≤ w3.heap.size := hb3.size
          have B3w : Below w.heap.size w w3 := B2w.trans (hb3.mono (by omega))
          have k1_3 := k1_2.st hb3
          have k2_3 := k2_2.st hb3
          have ry1_3 := ry1_2.st hb3
          have rz1_3 := rz1_2.st hb3
          have ry2_3 := ry2_2.st hb3
          have rz2_3 := rz2_2.st hb3
          clear hb3 k1_2 k2_2 ry1_2 rz1_2 ry2_2 rz2_2 x1_2 x2_2 a0 a1 b0 b1
          have x1_3 := k1_3.lt
          have x2_3 := k2_3.lt
          have a0 := k1_3.cell 0
          have a1 := k1_3.cell 1
          have b0 := k2_3.cell 0
          have b1 := k2_3.cell 1
          simp at a0 a1 b0 b1
          go_wp2
          go_loopw [6, 7, 8, 37] (fun v _ _ i wr => ∃ k : Nat, k ≤ z1.length ∧ i = .int .i64 k ∧ Own wr w3.heap.size wr.heap.size v (cpTo z1 z2 k) ∧ Below w3.heap.size w3 wr) (fun _ _ _ i _ => z1.length - (intOf i).toNat)
          case atStart => exact ⟨0, by omega, rfl, Own.nil, Below.refl _ _⟩
          case round =>
            obtain ⟨k, hk, rfl, hown, hbr⟩ := hrel
            have hdl := cpTo_len z1 z2 k
            have szr := hbr.size
            by_cases hlt : k < z1.length
            · have hlt2 : k < z2.length := by omega
              obtain ⟨p1, o1, rfl, _, _, hc1⟩ := (rz1_3.st hbr) (by omega)
              obtain ⟨p2, o2, rfl, _, _, hc2⟩ := (rz2_3.st hbr) (by omega)
              have hck1 := hc1 k hlt
              have hck2 := hc2 k hlt2
              have q2 := k2_3.st hbr
              have b0 := q2.cell 0
              have b1 := q2.cell 1
              have lq2 := q2.lt
              simp at b0 b1
              clear hc1 hc2 q2
              have yes := fun h => Lib.hid (cpTo_yes hlt hlt2 h)
              have no := fun h => Lib.hid (cpTo_no hlt hlt2 h)
              clear a0 a1 x1_3 x2_3
              cases he : (z1[k] != z2[k]) with
              | true =>
                have he' : (z2[k] != z1[k]) = true := by rw [bne_iff_ne] at he ⊢; exact fun h => he h.symm
                have hst := yes he
                clear yes no
                go_wp2_with (at_builtin; refine wp_append_ints rfl (.tmp 49) (.tmp 51) rfl rfl (hown.alloc _) (ys := [(k : Int)]) rfl ((Rd.one wr _ _ _ rfl).mono (Nat.zero_le _) (by simp)) (by simp; omega) (by simp; exact Nat.le_succ_of_le hbr.size) ?_; intro v2 wz hown2 hg2 hb2 hat2)
                have hb3 : Hid (Below w3.heap.size w3 wz) := (hbr.alloc hbr.size _).trans hb2
                have ho2 := Lib.hid hown2
                clear hown2 hb2 hg2 hat2 hown hbr
                go_roundw
                case rel => exact ⟨k + 1, by omega, by go_num, by rw [hst.out]; exact ho2.out, hb3.out⟩
                case measure => simp [intOf]; omega
              | false =>
                have he' : (z2[k] != z1[k]) = false := by rw [bne_eq_false_iff_eq] at he ⊢; exact he.symm
                have hst := no he
                have ho := Lib.hid hown
                clear yes no hown
                go_wp2
                go_roundw
                case rel => exact ⟨k + 1, by omega, by go_num, by rw [hst.out]; exact ho.out, hbr⟩
                case measure => simp [intOf]; omega
            · obtain rfl : k = z1.length := by omega
              obtain ⟨A, c, rfl, -, -⟩ := hown.rd
              have hbb : Hid (Below w.heap.size w wr) := B3w.trans (hbr.mono (by omega))
              have ho : Hid (Own wr w.heap.size wr.heap.size _ _) := hown.mono (by omega) (Nat.le_refl _)
              clear hown hbr
              go_wp2
              go_ret2
              exact ImplZB.mk rfl rfl hv2.out.symm ho.out (Nat.le_refl _) hlen hbb.out
        · have hne : ((z1.length : Int) != (z2.length : Int)) = true := by simp; omega
          have hb0 : cpB y1 z1 y2 z2 = false := by simp [cpB, h1, h2, h3, h4]; omega
          rw [cpL_no hb0]
          have hv2 := Lib.hid hb0
          clear hb0
          go_enter Try.func24, Try.ntmps24
          go_wp2_with fail
          (with_reducible refine (iIsSecret_v y1 A1 c1 z1 B1 d1 _ ((ry1.alloc _).alloc _) ((rz1.alloc _).alloc _) hy1 hz1 _ h1).mono ?_)
          rintro e w1 ⟨rfl, hb1⟩
          have s1 : w.heap.size + 2 ≤ w1.heap.size := by have := hb1.size; simpa using this
          have B1w : Below w.heap.size w w1 := (((Below.refl w.heap.size w).alloc (Nat.le_refl _) _).alloc (by simp) _).trans (hb1.mono (by simp; omega))
          have k1_1 := ((Bk.new w _ _).alloc _).st hb1
          have k2_1 := (Bk.new2 w _ _ _).st hb1
          have ry1_1 := ((ry1.alloc _).alloc _).st hb1
          have rz1_1 := ((rz1.alloc _).alloc _).st hb1
          have ry2_1 := ((ry2.alloc _).alloc _).st hb1
          have rz2_1 := ((rz2.alloc _).alloc _).st hb1
          clear hb1
          have x1_1 := k1_1.lt
          have x2_1 := k2_1.lt
          have a0 := k1_1.cell 0
          have a1 := k1_1.cell 1
          have b0 := k2_1.cell 0
          have b1 := k2_1.cell 1
          simp at a0 a1 b0 b1
          go_wp2_with fail
          (with_reducible refine (iIsSecret_v y2 A2 c2 z2 B2 d2 _ ry2_1 rz2_1 hy2 hz2 _ h2).mono ?_)
          rintro e w2 ⟨rfl, hb2⟩
          have s2 : w1.heap.size ≤ w2.heap.size := hb2.size
          have B2w : Below w.heap.size w w2 := B1w.trans (hb2.mono (by omega))
          have k1_2 := k1_1.st hb2
          have k2_2 := k2_1.st hb2
          have ry1_2 := ry1_1.st hb2
          have rz1_2 := rz1_1.st hb2
          have ry2_2 := ry2_1.st hb2
          have rz2_2 := rz2_1.st hb2
          clear hb2 k1_1 k2_1 ry1_1 rz1_1 ry2_1 rz2_1 x1_1 x2_1 a0 a1 b0 b1
          have x1_2 := k1_2.lt
          have x2_2 := k2_2.lt
          have a0 := k1_2.cell 0
          have a1 := k1_2.cell 1
          have b0 := k2_2.cell 0
          have b1 := k2_2.cell 1
          simp at a0 a1 b0 b1
          go_wp2_with fail
          (with_reducible refine (slEqual_v y1 y2 A1 A2 c1 c2 _ ry1_2 ry2_2 (by omega) (by omega) _ h3).mono ?_)
          rintro e w3 ⟨rfl, hb3⟩
          have s3 : w2.heap.size ≤ w3.heap.size := hb3.size
          have B3w : Below w.heap.size w w3 := B2w.trans (hb3.mono (by omega))
          have k1_3 := k1_2.st hb3
          have k2_3 := k2_2.st hb3
          have ry1_3 := ry1_2.st hb3
          have rz1_3 := rz1_2.st hb3
          have ry2_3 := ry2_2.st hb3
          have rz2_3 := rz2_2.st hb3
          clear hb3 k1_2 k2_2 ry1_2 rz1_2 ry2_2 rz2_2 x1_2 x2_2 a0 a1 b0 b1
          have x1_3 := k1_3.lt
          have x2_3 := k2_3.lt
          have a0 := k1_3.cell 0
          have a1 := k1_3.cell 1
          have b0 := k2_3.cell 0
          have b1 := k2_3.cell 1
          simp at a0 a1 b0 b1
          go_wp2
          go_ret2
          exact ImplZB.nil rfl hv2.out.symm B3w
end Go.Proofs.Ytdonggpcabkmlaa
