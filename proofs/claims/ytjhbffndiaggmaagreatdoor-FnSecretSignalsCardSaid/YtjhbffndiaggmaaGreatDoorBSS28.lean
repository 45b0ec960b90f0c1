/-
  Contracts and plain laws that the walk uses, several texts in one. The conditions are named ahead of each.
-/
import Derived.Test.YtjhbffndiaggmaaGreatDoorBSS7
import Derived.Test.YtjhbffndiaggmaaGreatDoorZSSSecret
import Derived.Test.YtjhbffndiaggmaaGreatDoorBSS1
import Derived.Test.YtjhbffndiaggmaaGreatDoorBSS6
import Derived.Test.YtjhbffndiaggmaaGreatDoorZSSLawKit
import Derived.Test.YtjhbffndiaggmaaGreatDoorBSS4

/-
  Contracts of OpenSecret. The conditions are bounds on lengths, and room for what the reference reads.
-/
namespace Go.Proofs.YtjhbffndiaggmaaGreatDoor
open Go.RowKit Go.ChangeShapes Go.WideShapes
set_option linter.unusedVariables false
set_option linter.unusedSimpArgs false

theorem sc_facts {y z : List Int} (h : scB y z = true) : z.length ≤ 60 ∧ (∀ k (_ : k < z.length), 1 ≤ z[k] ∧ z[k] ≤ 60) ∧ 20 * y.length < z.length + 20 ∧ z.length ≤ 20 * y.length ∧ (∀ k (_ : k < y.length), 0 ≤ y[k] ∧ y[k] ≤ 59) := by
  simp only [scB, Bool.and_eq_true, decide_eq_true_eq] at h
  obtain ⟨h1, h2, h3, h4, h5⟩ := h
  have h6 : (y.length : Int) = ((z.length : Int) + 20 - 1) / 20 := h3
  exact ⟨h1, allB_iff.1 h2, by omega, by omega, allB_iff.1 h4⟩
def osB (k1 p1 : Int) (us y z : List Int) : Bool := kbB k1 p1 us && (scB y z && allB y 0 (p1 - 1))
def osL (k1 p1 : Int) (us y z : List Int) : List Int := if osB k1 p1 us y z then shL z (numsL k1 y) (-1) else []
theorem osL_no {k1 p1 : Int} {us y z : List Int} (h : osB k1 p1 us y z = false) : osL k1 p1 us y z = [] := by simp [osL, h]
theorem osL_yes {k1 p1 : Int} {us y z : List Int} (h : osB k1 p1 us y z = true) : osL k1 p1 us y z = shL z (numsL k1 y) (-1) := by simp [osL, h]
theorem kb_pages {k1 p1 : Int} {us : List Int} (h : kbB k1 p1 us = true) : (0 ≤ k1 ∧ k1 ≤ 1000000000) ∧ 1 ≤ p1 ∧ p1 ≤ 60 := by
  simp only [kbB, Bool.and_eq_true] at h; exact ⟨inB_iff.1 h.1, inB_iff.1 h.2.1⟩
theorem iIsSecret_w (y1 : List Int) (A1 : Option Addr) (c1 : Nat) (z1 : List Int) (B1 : Option Addr) (d1 : Nat) {l h l' h' : Nat} (w : World) (hr1 : Rd w l h A1 y1) (hr2 : Rd w l' h' B1 z1) (hl1 : y1.length ≤ 1048576) (hl2 : z1.length ≤ 1048576) (hcap : True) (v : Bool) (hv : scB y1 z1 = v) :
    Calls Tryz.prog 49 #[.agg #[.slice A1 y1.length c1, .slice B1 z1.length d1]] w fun e w' => e = .returned (.bool v) ∧ Below w.heap.size w w' := by
  subst hv; exact iIsSecret_any y1 A1 c1 z1 B1 d1 w hr1 hr2 hl1 hl2
theorem scGood_w (y1 : List Int) (A1 : Option Addr) (c1 : Nat) (z1 : List Int) (B1 : Option Addr) (d1 : Nat) {l h l' h' : Nat} (w : World) (hr1 : Rd w l h A1 y1) (hr2 : Rd w l' h' B1 z1) (hl1 : y1.length ≤ 1048576) (hl2 : z1.length ≤ 1048576) (hcap : y1.length ≤ c1) (v : Bool) (hv : scB y1 z1 = v) :
    Calls Tryz.prog 117 #[.agg #[.slice A1 y1.length c1, .slice B1 z1.length d1]] w fun e w' => e = .returned (.bool v) ∧ Below w.heap.size w w' := by
  subst hv; exact scGood_any y1 A1 c1 z1 B1 d1 w hr1 hr2 hl1 hl2 hcap
theorem l1All_w (zs : List Int) (A : Option Addr) (c : Nat) {l h : Nat} (lo hi : Int) (w : World) (hr : Rd w l h A zs) (hl : zs.length ≤ 1048576) (v : Bool) (hv : allB zs lo hi = v) :
    Calls Tryz.prog 186 #[.slice A zs.length c, .int .i64 lo, .int .i64 hi] w fun e w' => e = .returned (.bool v) ∧ w = w' := by
  rw [← hv]; exact l1All_any zs A c lo hi w hr (by omega)
end Go.Proofs.YtjhbffndiaggmaaGreatDoor

/-
  Plain functions for secrets that are made and received, and for key books that are merged, and their laws. No program here.
-/
namespace Go.Proofs.YtjhbffndiaggmaaGreatDoor
set_option linter.unusedVariables false
set_option linter.unusedSimpArgs false

theorem ufP_at (us : List Int) (m j : Nat) (h : j < (ufP us m).length) : (ufP us m)[j] = (pfx (ufU us j) : Int) := by simp [ufP]
theorem ufP_bd {key pages : Int} {us : List Int} (h : kbB key pages us = true) {m : Nat} (hm : (us.length : Int) + (m : Int) ≤ pages) : ∀ j (_ : j < (ufP us m).length), 0 ≤ (ufP us m)[j] ∧ (ufP us m)[j] ≤ 59 := by
  intro j hj
  rw [ufP_at]
  rw [ufP_len] at hj
  obtain ⟨h1, h2⟩ := kb_iter h j (by omega)
  obtain ⟨_, _, _, h3⟩ := kb_step h1 (by omega)
  have := (kb_facts h).2.1
  omega

/-! ### a message that is hidden -/
def hmB (key pages : Int) (us ss : List Int) : Bool := decide (ss.length ≤ 60) && (allB ss 1 60 && ufB key pages us (ss.length : Int))
def hmK (key pages : Int) (us ss : List Int) : Int := if hmB key pages us ss then key else 0
def hmG (key pages : Int) (us ss : List Int) : Int := if hmB key pages us ss then pages else 0
def hmL (key pages : Int) (us ss : List Int) : List Int := if hmB key pages us ss then ufU us (ufM (ss.length : Int)) else []
def hmP (key pages : Int) (us ss : List Int) : List Int := if hmB key pages us ss then ufP us (ufM (ss.length : Int)) else []
def hmS (key pages : Int) (us ss : List Int) : List Int := if hmB key pages us ss then shL ss (numsL key (ufP us (ufM (ss.length : Int)))) 1 else []
theorem hm_no {key pages : Int} {us ss : List Int} (h : hmB key pages us ss = false) : hmK key pages us ss = 0 ∧ hmG key pages us ss = 0 ∧ hmL key pages us ss = [] ∧ hmP key pages us ss = [] ∧ hmS key pages us ss = [] := by
  simp [hmK, hmG, hmL, hmP, hmS, h]
theorem hm_yes {key pages : Int} {us ss : List Int} (h : hmB key pages us ss = true) : hmK key pages us ss = key ∧ hmG key pages us ss = pages ∧ hmL key pages us ss = ufU us (ufM (ss.length : Int)) ∧ hmP key pages us ss = ufP us (ufM (ss.length : Int)) ∧ hmS key pages us ss = shL ss (numsL key (ufP us (ufM (ss.length : Int)))) 1 := by
  simp [hmK, hmG, hmL, hmP, hmS, h]
theorem hm_facts {key pages : Int} {us ss : List Int} (h1 : ss.length ≤ 60) (h2 : allB ss 1 60 = true) (h3 : ufB key pages us (ss.length : Int) = true) :
    (0 ≤ key ∧ key ≤ 1000000000) ∧ (∀ k (_ : k < ss.length), 1 ≤ ss[k] ∧ ss[k] ≤ 60) ∧ (ufP us (ufM (ss.length : Int))).length ≤ 60 ∧ ss.length ≤ 20 * (ufP us (ufM (ss.length : Int))).length ∧ 20 * (ufP us (ufM (ss.length : Int))).length < ss.length + 20 ∧
      (∀ k (_ : k < (ufP us (ufM (ss.length : Int))).length), 0 ≤ (ufP us (ufM (ss.length : Int)))[k] ∧ (ufP us (ufM (ss.length : Int)))[k] ≤ 59) := by
  simp only [ufB, Bool.and_eq_true, decide_eq_true_eq] at h3
  have hm := uf_m (n := (ss.length : Int)) (by omega) (by omega)
  refine ⟨(kb_facts h3.1).1, allB_iff.1 h2, by rw [ufP_len]; exact hm.2.1, by rw [ufP_len]; omega, by rw [ufP_len]; omega, ufP_bd h3.1 h3.2.2⟩

/-! ### a secret that is received -/
def putM (us y : List Int) : List Int := y.foldl putL us
theorem putM_zero (us y : List Int) : putM us (y.take 0) = us := rfl
theorem putM_succ (us y : List Int) (k : Nat) (h : k < y.length) : putM us (y.take (k + 1)) = putL (putM us (y.take k)) y[k] := by
  unfold putM; rw [List.take_succ_eq_append_getElem h, List.foldl_append]; rfl
theorem putM_mem {us y : List Int} {x : Int} : x ∈ putM us y ↔ x ∈ us ∨ x ∈ y := by
  unfold putM
  induction y generalizing us with
  | nil => simp
  | cons a y ih =>
    rw [List.foldl_cons, ih, putL_mem, List.mem_cons]
    constructor
    · rintro ((h | h) | h)
      · exact .inl h
      · exact .inr (.inl h)
      · exact .inr (.inr h)
    · rintro (h | h | h)
      · exact .inl (.inl h)
      · exact .inl (.inr h)
      · exact .inr h
theorem putM_pw {us y : List Int} (h : us.Pairwise (· < ·)) : (putM us y).Pairwise (· < ·) := by
  unfold putM
  induction y generalizing us with
  | nil => exact h
  | cons a y ih => exact ih (putL_pw h)
theorem putM_len (us y : List Int) : (putM us y).length ≤ us.length + y.length := by
  unfold putM
  induction y generalizing us with
  | nil => simp
  | cons a y ih => have := ih (us := putL us a); have := putL_len us a; simp only [List.foldl_cons, List.length_cons]; omega
theorem putL_len_le (zs : List Int) (n : Int) : zs.length ≤ (putL zs n).length := by
  induction zs with
  | nil => simp [putL]
  | cons z zs ih =>
    unfold putL
    split
    · simp; omega
    · split <;> simp
theorem putM_kb {key pages : Int} {us y : List Int} (h : kbB key pages us = true) (hy : ∀ k (_ : k < y.length), 0 ≤ y[k] ∧ y[k] ≤ pages - 1) : kbB key pages (putM us y) = true := by
  obtain ⟨hk, hp, hpw, hbd⟩ := kb_facts h
  simp only [kbB, risinB, Bool.and_eq_true, inB_iff]
  refine ⟨hk, hp, allB_iff.2 fun j hj => ?_, ris_of_pw (putM_pw hpw)⟩
  rcases putM_mem.1 (List.getElem_mem hj) with hm | hm
  · obtain ⟨i, hi, e3⟩ := List.getElem_of_mem hm
    rw [← e3]; exact hbd i hi
  · obtain ⟨i, hi, e3⟩ := List.getElem_of_mem hm
    rw [← e3]; exact hy i hi
/-- none of the pages was used -/
def newB (us y : List Int) : Bool := y.all fun p => !hasB us p
theorem newB_at {us y : List Int} {k : Nat} (h : k < y.length) (h1 : hasB us y[k] = true) : newB us y = false := by
  unfold newB
  rw [List.all_eq_false]
  exact ⟨y[k], List.getElem_mem h, by simp [h1]⟩
theorem newB_iff {us y : List Int} : newB us y = true ↔ ∀ k (_ : k < y.length), hasB us y[k] = false := by
  unfold newB
  rw [List.all_eq_true]
  constructor
  · intro h k hk
    have := h y[k] (List.getElem_mem hk)
    simpa using this
  · intro h x hx
    obtain ⟨k, hk, rfl⟩ := List.getElem_of_mem hx
    simp [h k hk]
theorem hasB_putM {us y : List Int} {k : Nat} (hy : y.Nodup) (h : k < y.length) : hasB (putM us (y.take k)) y[k] = hasB us y[k] := by
  unfold hasB
  congr 1
  rw [putM_mem]
  apply propext
  constructor
  · rintro (h1 | h1)
    · exact h1
    · exfalso
      obtain ⟨i, hi, e⟩ := List.getElem_of_mem h1
      rw [List.length_take] at hi
      rw [List.getElem_take] at e
      exact List.pairwise_iff_getElem.1 hy i k (by omega) h (by omega) e
  · exact .inl
def rsB (key pages : Int) (us y z : List Int) : Bool := osB key pages us y z && newB us y
def rsK (key pages : Int) (us y z : List Int) : Int := if rsB key pages us y z then key else 0
def rsG (key pages : Int) (us y z : List Int) : Int := if rsB key pages us y z then pages else 0
def rsL (key pages : Int) (us y z : List Int) : List Int := if rsB key pages us y z then putM us y else []
def rsS (key pages : Int) (us y z : List Int) : List Int := if rsB key pages us y z then shL z (numsL key y) (-1) else []
theorem rs_no {key pages : Int} {us y z : List Int} (h : rsB key pages us y z = false) : rsK key pages us y z = 0 ∧ rsG key pages us y z = 0 ∧ rsL key pages us y z = [] ∧ rsS key pages us y z = [] := by simp [rsK, rsG, rsL, rsS, h]
theorem rs_yes {key pages : Int} {us y z : List Int} (h : rsB key pages us y z = true) : rsK key pages us y z = key ∧ rsG key pages us y z = pages ∧ rsL key pages us y z = putM us y ∧ rsS key pages us y z = shL z (numsL key y) (-1) := by simp [rsK, rsG, rsL, rsS, h]

/-! ### key books that are merged -/
def mbK (k1 p1 : Int) (z1 : List Int) (k2 p2 : Int) (z2 : List Int) : Int := if kpB k1 p1 z1 k2 p2 z2 then k1 else 0
def mbG (k1 p1 : Int) (z1 : List Int) (k2 p2 : Int) (z2 : List Int) : Int := if kpB k1 p1 z1 k2 p2 z2 then p1 else 0
def mbL (k1 p1 : Int) (z1 : List Int) (k2 p2 : Int) (z2 : List Int) : List Int := if kpB k1 p1 z1 k2 p2 z2 then putM z1 z2 else []
theorem mb_no {k1 p1 : Int} {z1 : List Int} {k2 p2 : Int} {z2 : List Int} (h : kpB k1 p1 z1 k2 p2 z2 = false) : mbK k1 p1 z1 k2 p2 z2 = 0 ∧ mbG k1 p1 z1 k2 p2 z2 = 0 ∧ mbL k1 p1 z1 k2 p2 z2 = [] := by simp [mbK, mbG, mbL, h]
theorem mb_yes {k1 p1 : Int} {z1 : List Int} {k2 p2 : Int} {z2 : List Int} (h : kpB k1 p1 z1 k2 p2 z2 = true) : mbK k1 p1 z1 k2 p2 z2 = k1 ∧ mbG k1 p1 z1 k2 p2 z2 = p1 ∧ mbL k1 p1 z1 k2 p2 z2 = putM z1 z2 := by simp [mbK, mbG, mbL, h]
end Go.Proofs.YtjhbffndiaggmaaGreatDoor

/-
  The statements' helpers that mark a secret's memory and look whether the marks are held. The conditions are bounds on lengths.
-/
namespace Go.Proofs.YtjhbffndiaggmaaGreatDoor
open Go.RowKit Go.ChangeShapes Go.WideShapes
set_option linter.unusedVariables false
set_option linter.unusedSimpArgs false

theorem out_of_tight {w : World} {lo hi l r : Nat} {u : Value} {s : List Int} (h : Own w lo hi u s) (t : ∀ b, l ≤ b → b < r → u.ownBlock = some b ∧ lo ≤ b ∧ b < hi) {b : Nat} (hb : w.heap.size ≤ b) : b < l ∨ r ≤ b := by
  by_cases h1 : l ≤ b ∧ b < r
  · have := (h.lt b (t b h1.1 h1.2).1).2.2
    omega
  · omega
theorem Own.apart {w w' : World} {lo hi l r : Nat} {u v : Value} {z : List Int} (h2 : Own w lo hi v z) (hd : Dj u v) (t : ∀ b, l ≤ b → b < r → u.ownBlock = some b ∧ lo ≤ b ∧ b < hi) (hf : Fr l r w w') : Own w' lo hi v z :=
  h2.keep fun k hk _ _ h3 => hf.block k h3 (by
    by_cases hx : l ≤ k ∧ k < r
    · obtain ⟨o1, _⟩ := t k hx.1 hx.2
      rcases hd with d | d
      · rw [o1] at d; cases d
      · exact absurd (by rw [o1, hk]) d
    · omega)

theorem dj_turn {p q : Value} (h : Dj p q) : Dj q p := by
  unfold Dj at *
  cases hq : q.ownBlock with
  | none => exact .inl rfl
  | some z =>
    right
    rcases h with h | h
    · rw [h]; simp
    · rw [← hq]; exact fun e => h e.symm
end Go.Proofs.YtjhbffndiaggmaaGreatDoor

/-
  The reference's validity of a secret, as the statement calls it. The conditions are bounds on lengths, and that there is room for what is read.
-/
namespace Go.Proofs.YtjhbffndiaggmaaGreatDoor
open Go.RowKit Go.ChangeShapes Go.WideShapes
end Go.Proofs.YtjhbffndiaggmaaGreatDoor

/-
  Contracts of ChangedPlaces. The conditions are bounds on lengths, and room for what the reference reads.
-/
namespace Go.Proofs.YtjhbffndiaggmaaGreatDoor
open Go.RowKit Go.ChangeShapes Go.WideShapes
set_option linter.unusedVariables false
set_option linter.unusedSimpArgs false

def cpB (y1 z1 y2 z2 : List Int) : Bool := scB y1 z1 && (scB y2 z2 && (eqL y1 y2 && ((z1.length : Int) == (z2.length : Int))))
/-- the places below k at which two lists differ -/
def cpTo (x y : List Int) (k : Nat) : List Int := ((List.range k).filter fun i => !(x[i]? == y[i]?)).map fun i : Nat => (i : Int)
theorem cpTo_len (x y : List Int) (k : Nat) : (cpTo x y k).length ≤ k := by
  unfold cpTo; rw [List.length_map]; exact Nat.le_trans (List.length_filter_le _ _) (by simp)
theorem cpTo_zero (x y : List Int) : cpTo x y 0 = [] := rfl
theorem cpTo_yes {x y : List Int} {k : Nat} (h1 : k < x.length) (h2 : k < y.length) (h : (x[k] != y[k]) = true) : cpTo x y (k + 1) = cpTo x y k ++ [(k : Int)] := by
  simp only [bne_iff_ne, ne_eq] at h
  unfold cpTo; rw [List.range_succ, List.filter_append, List.map_append]; simp [h1, h2, h]
theorem cpTo_no {x y : List Int} {k : Nat} (h1 : k < x.length) (h2 : k < y.length) (h : (x[k] != y[k]) = false) : cpTo x y (k + 1) = cpTo x y k := by
  simp only [bne_eq_false_iff_eq] at h
  unfold cpTo; rw [List.range_succ, List.filter_append, List.map_append]; simp [h1, h2, h]
def cpL (y1 z1 y2 z2 : List Int) : List Int := if cpB y1 z1 y2 z2 then cpTo z1 z2 z1.length else []
theorem cpL_no {y1 z1 y2 z2 : List Int} (h : cpB y1 z1 y2 z2 = false) : cpL y1 z1 y2 z2 = [] := by simp [cpL, h]
theorem cpL_yes {y1 z1 y2 z2 : List Int} (h : cpB y1 z1 y2 z2 = true) : cpL y1 z1 y2 z2 = cpTo z1 z2 z1.length := by simp [cpL, h]
theorem cpL_len (y1 z1 y2 z2 : List Int) : (cpL y1 z1 y2 z2).length ≤ z1.length := by
  unfold cpL; split
  · exact cpTo_len _ _ _
  · simp
theorem scGood_v (y1 : List Int) (A1 : Option Addr) (c1 : Nat) (z1 : List Int) (B1 : Option Addr) (d1 : Nat) {l h l' h' : Nat} (w : World) (hr1 : Rd w l h A1 y1) (hr2 : Rd w l' h' B1 z1) (hl1 : y1.length ≤ 1048576) (hl2 : z1.length ≤ 1048576) (hcap : y1.length ≤ c1) (v : Bool) (hv : scB y1 z1 = v) :
    Calls Tryz.prog 117 #[.agg #[.slice A1 y1.length c1, .slice B1 z1.length d1]] w fun e w' => e = .returned (.bool v) ∧ Below w.heap.size w w' := by
  subst hv; exact scGood_any y1 A1 c1 z1 B1 d1 w hr1 hr2 hl1 hl2 hcap
theorem iIsSecret_v (y1 : List Int) (A1 : Option Addr) (c1 : Nat) (z1 : List Int) (B1 : Option Addr) (d1 : Nat) {l h l' h' : Nat} (w : World) (hr1 : Rd w l h A1 y1) (hr2 : Rd w l' h' B1 z1) (hl1 : y1.length ≤ 1048576) (hl2 : z1.length ≤ 1048576) (v : Bool) (hv : scB y1 z1 = v) :
    Calls Tryz.prog 49 #[.agg #[.slice A1 y1.length c1, .slice B1 z1.length d1]] w fun e w' => e = .returned (.bool v) ∧ Below w.heap.size w w' := by
  subst hv; exact iIsSecret_any y1 A1 c1 z1 B1 d1 w hr1 hr2 hl1 hl2

set_option maxHeartbeats 4000000 in
theorem sChangedPlaces_any (y1 : List Int) (A1 : Option Addr) (c1 : Nat) (z1 : List Int) (B1 : Option Addr) (d1 : Nat) (y2 : List Int) (A2 : Option Addr) (c2 : Nat) (z2 : List Int) (B2 : Option Addr) (d2 : Nat) {l1 h1 l2 h2 l3 h3 l4 h4 : Nat} (w : World)
    (ry10 : Rd w l1 h1 A1 y1) (rz10 : Rd w l2 h2 B1 z1) (ry20 : Rd w l3 h3 A2 y2) (rz20 : Rd w l4 h4 B2 z2) (hy1 : y1.length ≤ 1048576) (hz1 : z1.length ≤ 1048576) (hy2 : y2.length ≤ 1048576) (hz2 : z2.length ≤ 1048576) (hcap1 : y1.length ≤ c1) (hcap2 : y2.length ≤ c2) :
    Calls Tryz.prog 37 #[.agg #[.slice A1 y1.length c1, .slice B1 z1.length d1], .agg #[.slice A2 y2.length c2, .slice B2 z2.length d2]] w (SpecZB (cpL y1 z1 y2 z2) (cpB y1 z1 y2 z2) w) := by
  have ry1 := ry10.std
  have rz1 := rz10.std
  have ry2 := ry20.std
  have rz2 := rz20.std
  clear ry10 rz10 ry20 rz20
  cases h1 : scB y1 z1 with
  | false =>
    have hb0 : cpB y1 z1 y2 z2 = false := by simp [cpB, h1]
    rw [cpL_no hb0]
    have hv2 := Lib.hid hb0
    clear hb0
    go_enter Tryz.func37, Tryz.ntmps37
    go_wp2_with fail
    (with_reducible refine (scGood_v y1 A1 c1 z1 B1 d1 _ ((ry1.alloc _).alloc _) ((rz1.alloc _).alloc _) hy1 hz1 hcap1 _ h1).mono ?_)
    rintro e w1 ⟨rfl, hb1⟩
    have s1 : w.heap.size + 2 ≤ w1.heap.size := by have := hb1.size; simpa using this
    have B1w : Below w.heap.size w w1 := (((Below.refl w.heap.size w).alloc (Nat.le_refl _) _).alloc (by simp) _).trans (hb1.mono (by simp; omega))
    have k1_1 := ((Bk.new w _ _).alloc _).st hb1
    have k2_1 := (Bk.new2 w _ _ _).st hb1
    have ry1_1 := ((ry1.alloc _).alloc _).st hb1
    have rz1_1 := ((rz1.alloc _).alloc _).st hb1
    have ry2_1 := ((ry2.alloc _).alloc _).st hb1
    have rz2_1 := ((rz2.alloc _).alloc _).st hb1
    clear hb1
    have x1_1 := k1_1.lt
    have x2_1 := k2_1.lt
    have a0 := k1_1.cell 0
    have a1 := k1_1.cell 1
    have b0 := k2_1.cell 0
    have b1 := k2_1.cell 1
    simp at a0 a1 b0 b1
    go_wp2
    go_ret2
    exact SpecZB.nil rfl hv2.out.symm B1w
  | true =>
    cases h2 : scB y2 z2 with
    | false =>
      have hb0 : cpB y1 z1 y2 z2 = false := by simp [cpB, h1, h2]
      rw [cpL_no hb0]
      have hv2 := Lib.hid hb0
      clear hb0
      go_enter Tryz.func37, Tryz.ntmps37
      go_wp2_with fail
      (with_reducible refine (scGood_v y1 A1 c1 z1 B1 d1 _ ((ry1.alloc _).alloc _) ((rz1.alloc _).alloc _) hy1 hz1 hcap1 _ h1).mono ?_)
      rintro e w1 ⟨rfl, hb1⟩
      have s1 : w.heap.size + 2 ≤ w1.heap.size := by have := hb1.size; simpa using this
      have B1w : Below w.heap.size w w1 := (((Below.refl w.heap.size w).alloc (Nat.le_refl _) _).alloc (by simp) _).trans (hb1.mono (by simp; omega))
      have k1_1 := ((Bk.new w _ _).alloc _).st hb1
      have k2_1 := (Bk.new2 w _ _ _).st hb1
      have ry1_1 := ((ry1.alloc _).alloc _).st hb1
      have rz1_1 := ((rz1.alloc _).alloc _).st hb1
      have ry2_1 := ((ry2.alloc _).alloc _).st hb1
      have rz2_1 := ((rz2.alloc _).alloc _).st hb1
      clear hb1
      have x1_1 := k1_1.lt
      have x2_1 := k2_1.lt
      have a0 := k1_1.cell 0
      have a1 := k1_1.cell 1
      have b0 := k2_1.cell 0
      have b1 := k2_1.cell 1
      simp at a0 a1 b0 b1
      go_wp2_with fail
      (with_reducible refine (scGood_v y2 A2 c2 z2 B2 d2 _ ry2_1 rz2_1 hy2 hz2 hcap2 _ h2).mono ?_)
      rintro e w2 ⟨rfl, hb2⟩
      have s2 : w1.heap.size ≤ w2.heap.size := hb2.size
      have B2w : Below w.heap.size w w2 := B1w.trans (hb2.mono (by omega))
      have k1_2 := k1_1.st hb2
      have k2_2 := k2_1.st hb2
      have ry1_2 := ry1_1.st hb2
      have rz1_2 := rz1_1.st hb2
      have ry2_2 := ry2_1.st hb2
      have rz2_2 := rz2_1.st hb2
      clear hb2 k1_1 k2_1 ry1_1 rz1_1 ry2_1 rz2_1 x1_1 x2_1 a0 a1 b0 b1
      have x1_2 := k1_2.lt
      have x2_2 := k2_2.lt
      have a0 := k1_2.cell 0
      have a1 := k1_2.cell 1
      have b0 := k2_2.cell 0
      have b1 := k2_2.cell 1
      simp at a0 a1 b0 b1
      go_wp2
      go_ret2
      exact SpecZB.nil rfl hv2.out.symm B2w
    | true =>
      cases h3 : eqL y1 y2 with
      | false =>
        have hb0 : cpB y1 z1 y2 z2 = false := by simp [cpB, h1, h2, h3]
        rw [cpL_no hb0]
        have hv2 := Lib.hid hb0
        clear hb0
        go_enter Tryz.func37, Tryz.ntmps37
        go_wp2_with fail
        (with_reducible refine (scGood_v y1 A1 c1 z1 B1 d1 _ ((ry1.alloc _).alloc _) ((rz1.alloc _).alloc _) hy1 hz1 hcap1 _ h1).mono ?_)
        rintro e w1 ⟨rfl, hb1⟩
        have s1 : w.heap.size + 2 ≤ w1.heap.size := by have := hb1.size; simpa using this
        have B1w : Below w.heap.size w w1 := (((Below.refl w.heap.size w).alloc (Nat.le_refl _) _).alloc (by simp) _).trans (hb1.mono (by simp; omega))
        have k1_1 := ((Bk.new w _ _).alloc _).st hb1
        have k2_1 := (Bk.new2 w _ _ _).st hb1
        have ry1_1 := ((ry1.alloc _).alloc _).st hb1
        have rz1_1 := ((rz1.alloc _).alloc _).st hb1
        have ry2_1 := ((ry2.alloc _).alloc _).st hb1
        have rz2_1 := ((rz2.alloc _).alloc _).st hb1
        clear hb1
        have x1_1 := k1_1.lt
        have x2_1 := k2_1.lt
        have a0 := k1_1.cell 0
        have a1 := k1_1.cell 1
        have b0 := k2_1.cell 0
        have b1 := k2_1.cell 1
        simp at a0 a1 b0 b1
        go_wp2_with fail
        (with_reducible refine (scGood_v y2 A2 c2 z2 B2 d2 _ ry2_1 rz2_1 hy2 hz2 hcap2 _ h2).mono ?_)
        rintro e w2 ⟨rfl, hb2⟩
        have s2 : w1.heap.size ≤ w2.heap.size := hb2.size
        have B2w : Below w.heap.size w w2 := B1w.trans (hb2.mono (by omega))
        have k1_2 := k1_1.st hb2
        have k2_2 := k2_1.st hb2
        have ry1_2 := ry1_1.st hb2
        have rz1_2 := rz1_1.st hb2
        have ry2_2 := ry2_1.st hb2
        have rz2_2 := rz2_1.st hb2
        clear hb2 k1_1 k2_1 ry1_1 rz1_1 ry2_1 rz2_1 x1_1 x2_1 a0 a1 b0 b1
        have x1_2 := k1_2.lt
        have x2_2 := k2_2.lt
        have a0 := k1_2.cell 0
        have a1 := k1_2.cell 1
        have b0 := k2_2.cell 0
        have b1 := k2_2.cell 1
        simp at a0 a1 b0 b1
        go_wp2_with fail
        (with_reducible refine (l1Same_v y1 y2 A1 A2 c1 c2 _ ry1_2 ry2_2 (by omega) (by omega) _ h3).mono ?_)
        rintro e w3 ⟨rfl, hb3⟩
        have s3 : w2.heap.size ≤ w3.heap.size := hb3.size
        have B3w : Below w.heap.size w w3 := B2w.trans (hb3.mono (by omega))
        have k1_3 := k1_2.st hb3
        have k2_3 := k2_2.st hb3
        have ry1_3 := ry1_2.st hb3
        have rz1_3 := rz1_2.st hb3
        have ry2_3 := ry2_2.st hb3
        have rz2_3 := rz2_2.st hb3
        clear hb3 k1_2 k2_2 ry1_2 rz1_2 ry2_2 rz2_2 x1_2 x2_2 a0 a1 b0 b1
        have x1_3 := k1_3.lt
        have x2_3 := k2_3.lt
        have a0 := k1_3.cell 0
        have a1 := k1_3.cell 1
        have b0 := k2_3.cell 0
        have b1 := k2_3.cell 1
        simp at a0 a1 b0 b1
        go_wp2
        go_ret2
        exact SpecZB.nil rfl hv2.out.symm B3w
      | true =>
        by_cases h4 : z1.length = z2.length
        · have hle : z1.length ≤ z2.length := by omega
          have hge : z2.length ≤ z1.length := by omega
          have hne : ((z1.length : Int) != (z2.length : Int)) = false := by simp [h4]
          have hlen : (cpL y1 z1 y2 z2).length ≤ 1048576 := Nat.le_trans (cpL_len y1 z1 y2 z2) hz1
          have hb0 : cpB y1 z1 y2 z2 = true := by simp [cpB, h1, h2, h3, h4]
          rw [cpL_yes hb0] at hlen ⊢
          have hv2 := Lib.hid hb0
          clear hb0 h4
          go_enter Tryz.func37, Tryz.ntmps37
          go_wp2_with fail
          (with_reducible refine (scGood_v y1 A1 c1 z1 B1 d1 _ ((ry1.alloc _).alloc _) ((rz1.alloc _).alloc _) hy1 hz1 hcap1 _ h1).mono ?_)
          rintro e w1 ⟨rfl, hb1⟩
          have s1 : w.heap.size + 2 ≤ w1.heap.size := by have := hb1.size; simpa using this
          have B1w : Below w.heap.size w w1 := (((Below.refl w.heap.size w).alloc (Nat.le_refl _) _).alloc (by simp) _).trans (hb1.mono (by simp; omega))
          have k1_1 := ((Bk.new w _ _).alloc _).st hb1
          have k2_1 := (Bk.new2 w _ _ _).st hb1
          have ry1_1 := ((ry1.alloc _).alloc _).st hb1
          have rz1_1 := ((rz1.alloc _).alloc _).st hb1
          have ry2_1 := ((ry2.alloc _).alloc _).st hb1
          have rz2_1 := ((rz2.alloc _).alloc _).st hb1
          clear hb1
          have x1_1 := k1_1.lt
          have x2_1 := k2_1.lt
          have a0 := k1_1.cell 0
          have a1 := k1_1.cell 1
          have b0 := k2_1.cell 0
          have b1 := k2_1.cell 1
          simp at a0 a1 b0 b1
          go_wp2_with fail
          (with_reducible refine (scGood_v y2 A2 c2 z2 B2 d2 _ ry2_1 rz2_1 hy2 hz2 hcap2 _ h2).mono ?_)
          rintro e w2 ⟨rfl, hb2⟩
          have s2 : w1.heap.size ≤ w2.heap.size := hb2.size
          have B2w : Below w.heap.size w w2 := B1w.trans (hb2.mono (by omega))
          have k1_2 := k1_1.st hb2
          have k2_2 := k2_1.st hb2
          have ry1_2 := ry1_1.st hb2
          have rz1_2 := rz1_1.st hb2
          have ry2_2 := ry2_1.st hb2
          have rz2_2 := rz2_1.st hb2
          clear hb2 k1_1 k2_1 ry1_1 rz1_1 ry2_1 rz2_1 x1_1 x2_1 a0 a1 b0 b1
          have x1_2 := k1_2.lt
          have x2_2 := k2_2.lt
          have a0 := k1_2.cell 0
          have a1 := k1_2.cell 1
          have b0 := k2_2.cell 0
          have b1 := k2_2.cell 1
          simp at a0 a1 b0 b1
          go_wp2_with fail
          (with_reducible refine (l1Same_v y1 y2 A1 A2 c1 c2 _ ry1_2 ry2_2 (by omega) (by omega) _ h3).mono ?_)
          rintro e w3 ⟨rfl, hb3⟩
          have s3 : w2.heap.size ≤ w3.heap.size := hb3.size
          have B3w : Below w.heap.size w w3 := B2w.trans (hb3.mono (by omega))
          have k1_3 := k1_2.st hb3
          have k2_3 := k2_2.st hb3
          have ry1_3 := ry1_2.st hb3
          have rz1_3 := rz1_2.st hb3
          have ry2_3 := ry2_2.st hb3
          have rz2_3 := rz2_2.st hb3
          clear hb3 k1_2 k2_2 ry1_2 rz1_2 ry2_2 rz2_2 x1_2 x2_2 a0 a1 b0 b1
          have x1_3 := k1_3.lt
          have x2_3 := k2_3.lt
          have a0 := k1_3.cell 0
          have a1 := k1_3.cell 1
          have b0 := k2_3.cell 0
          have b1 := k2_3.cell 1
          simp at a0 a1 b0 b1
          go_wp2
          go_loopw [6, 7, 8, 37] (fun v _ _ i wr => ∃ k : Nat, k ≤ z1.length ∧ i = .int .i64 k ∧ Own wr w3.heap.size wr.heap.size v (cpTo z1 z2 k) ∧ Below w3.heap.size w3 wr) (fun _ _ _ i _ => z1.length - (intOf i).toNat)
          case atStart => exact ⟨0, by omega, rfl, Own.nil, Below.refl _ _⟩
          case round =>
            obtain ⟨k, hk, rfl, hown, hbr⟩ := hrel
            have hdl := cpTo_len z1 z2 k
            have szr := hbr.size
            by_cases hlt : k < z1.length
            · have hlt2 : k < z2.length := by omega
              obtain ⟨p1, o1, rfl, _, _, hc1⟩ := (rz1_3.st hbr) (by omega)
              obtain ⟨p2, o2, rfl, _, _, hc2⟩ := (rz2_3.st hbr) (by omega)
              have hck1 := hc1 k hlt
              have hck2 := hc2 k hlt2
              have q2 := k2_3.st hbr
              have b0 := q2.cell 0
              have b1 := q2.cell 1
              have lq2 := q2.lt
              simp at b0 b1
              clear hc1 hc2 q2
              have yes := fun h => Lib.hid (cpTo_yes hlt hlt2 h)
              have no := fun h => Lib.hid (cpTo_no hlt hlt2 h)
              clear a0 a1 x1_3 x2_3
              cases he : (z1[k] != z2[k]) with
              | true =>
                have he' : (z2[k] != z1[k]) = true := by rw [bne_iff_ne] at he ⊢; exact fun h => he h.symm
                have hst := yes he
                clear yes no
                go_wp2_with (at_builtin; refine wp_append_ints rfl (.tmp 49) (.tmp 51) rfl rfl (hown.alloc _) (ys := [(k : Int)]) rfl ((Rd.one wr _ _ _ rfl).mono (Nat.zero_le _) (by simp)) (by simp; omega) (by simp; exact Nat.le_succ_of_le hbr.size) ?_; intro v2 wz hown2 hg2 hb2 hat2)
                have hb3 : Hid (Below w3.heap.size w3 wz) := (hbr.alloc hbr.size _).trans hb2
                have ho2 := Lib.hid hown2
                clear hown2 hb2 hg2 hat2 hown hbr
                go_roundw
                case rel => exact ⟨k + 1, by omega, by go_num, by rw [hst.out]; exact ho2.out, hb3.out⟩
                case measure => simp [intOf]; omega
              | false =>
                have he' : (z2[k] != z1[k]) = false := by rw [bne_eq_false_iff_eq] at he ⊢; exact he.symm
                have hst := no he
                have ho := Lib.hid hown
                clear yes no hown
                go_wp2
                go_roundw
                case rel => exact ⟨k + 1, by omega, by go_num, by rw [hst.out]; exact ho.out, hbr⟩
                case measure => simp [intOf]; omega
            · obtain rfl : k = z1.length := by omega
              obtain ⟨A, c, rfl, -, -⟩ := hown.rd
              have hbb : Hid (Below w.heap.size w wr) := B3w.trans (hbr.mono (by omega))
              have ho : Hid (Own wr w.heap.size wr.heap.size _ _) := hown.mono (by omega) (Nat.le_refl _)
              clear hown hbr
              go_wp2
              go_ret2
              exact SpecZB.mk rfl rfl hv2.out.symm ho.out hlen hbb.out
        · have hne : ((z1.length : Int) != (z2.length : Int)) = true := by simp; omega
          have hb0 : cpB y1 z1 y2 z2 = false := by simp [cpB, h1, h2, h3, h4]; omega
          rw [cpL_no hb0]
          have hv2 := Lib.hid hb0
          clear hb0
          go_enter Tryz.func37, Tryz.ntmps37
          go_wp2_with fail
          (with_reducible refine (scGood_v y1 A1 c1 z1 B1 d1 _ ((ry1.alloc _).alloc _) ((rz1.alloc _).alloc _) hy1 hz1 hcap1 _ h1).mono ?_)
          rintro e w1 ⟨rfl, hb1⟩
          have s1 : w.heap.size + 2 ≤ w1.heap.size := by have := hb1.size; simpa using this
          have B1w : Below w.heap.size w w1 := (((Below.refl w.heap.size w).alloc (Nat.le_refl _) _).alloc (by simp) _).trans (hb1.mono (by simp; omega))
          have k1_1 := ((Bk.new w _ _).alloc _).st hb1
          have k2_1 := (Bk.new2 w _ _ _).st hb1
          have ry1_1 := ((ry1.alloc _).alloc _).st hb1
          have rz1_1 := ((rz1.alloc _).alloc _).st hb1
          have ry2_1 := ((ry2.alloc _).alloc _).st hb1
          have rz2_1 := ((rz2.alloc _).alloc _).st hb1
          clear hb1
          have x1_1 := k1_1.lt
          have x2_1 := k2_1.lt
          have a0 := k1_1.cell 0
          have a1 := k1_1.cell 1
          have b0 := k2_1.cell 0
          have b1 := k2_1.cell 1
          simp at a0 a1 b0 b1
          go_wp2_with fail
          (with_reducible refine (scGood_v y2 A2 c2 z2 B2 d2 _ ry2_1 rz2_1 hy2 hz2 hcap2 _ h2).mono ?_)
          rintro e w2 ⟨rfl, hb2⟩
          have s2 : w1.heap.size ≤ w2.heap.size := hb2.size
          have B2w : Below w.heap.size w w2 := B1w.trans (hb2.mono (by omega))
          have k1_2 := k1_1.st hb2
          have k2_2 := k2_1.st hb2
          have ry1_2 := ry1_1.st hb2
          have rz1_2 := rz1_1.st hb2
          have ry2_2 := ry2_1.st hb2
          have rz2_2 := rz2_1.st hb2
          clear hb2 k1_1 k2_1 ry1_1 rz1_1 ry2_1 rz2_1 x1_1 x2_1 a0 a1 b0 b1
          have x1_2 := k1_2.lt
          have x2_2 := k2_2.lt
          have a0 := k1_2.cell 0
          have a1 := k1_2.cell 1
          have b0 := k2_2.cell 0
          have b1 := k2_2.cell 1
          simp at a0 a1 b0 b1
          go_wp2_with fail
          (with_reducible refine (l1Same_v y1 y2 A1 A2 c1 c2 _ ry1_2 ry2_2 (by omega) (by omega) _ h3).mono ?_)
          rintro e w3 ⟨rfl, hb3⟩
          have s3 : w2.heap.size ≤ w3.heap.size := hb3.size
          have B3w : Below w.heap.size w w3 := B2w.trans (hb3.mono (by omega))
          have k1_3 := k1_2.st hb3
          have k2_3 := k2_2.st hb3
          have ry1_3 := ry1_2.st hb3
          have rz1_3 := rz1_2.st hb3
          have ry2_3 := ry2_2.st hb3
          have rz2_3 := rz2_2.st hb3
          clear hb3 k1_2 k2_2 ry1_2 rz1_2 ry2_2 rz2_2 x1_2 x2_2 a0 a1 b0 b1
          have x1_3 := k1_3.lt
          have x2_3 := k2_3.lt
          have a0 := k1_3.cell 0
          have a1 := k1_3.cell 1
          have b0 := k2_3.cell 0
          have b1 := k2_3.cell 1
          simp at a0 a1 b0 b1
          go_wp2
          go_ret2
          exact SpecZB.nil rfl hv2.out.symm B3w
set_option maxHeartbeats 4000000 in
theorem iChangedPlaces_any (y1 : List Int) (A1 : Option Addr) (c1 : Nat) (z1 : List Int) (B1 : Option Addr) (d1 : Nat) (y2 : List Int) (A2 : Option Addr) (c2 : Nat) (z2 : List Int) (B2 : Option Addr) (d2 : Nat) {l1 h1 l2 h2 l3 h3 l4 h4 : Nat} (w : World)
    (ry10 : Rd w l1 h1 A1 y1) (rz10 : Rd w l2 h2 B1 z1) (ry20 : Rd w l3 h3 A2 y2) (rz20 : Rd w l4 h4 B2 z2) (hy1 : y1.length ≤ 1048576) (hz1 : z1.length ≤ 1048576) (hy2 : y2.length ≤ 1048576) (hz2 : z2.length ≤ 1048576) :
    Calls Tryz.prog 36 #[.agg #[.slice A1 y1.length c1, .slice B1 z1.length d1], .agg #[.slice A2 y2.length c2, .slice B2 z2.length d2]] w (ImplZB (cpL y1 z1 y2 z2) (cpB y1 z1 y2 z2) w) := by
  have ry1 := ry10.std
  have rz1 := rz10.std
  have ry2 := ry20.std
  have rz2 := rz20.std
  clear ry10 rz10 ry20 rz20
  cases h1 : scB y1 z1 with
  | false =>
    have hb0 : cpB y1 z1 y2 z2 = false := by simp [cpB, h1]
    rw [cpL_no hb0]
    have hv2 := Lib.hid hb0
    clear hb0
    go_enter Tryz.func36, Tryz.ntmps36
    go_wp2_with fail
    (with_reducible refine (iIsSecret_v y1 A1 c1 z1 B1 d1 _ ((ry1.alloc _).alloc _) ((rz1.alloc _).alloc _) hy1 hz1 _ h1).mono ?_)
    rintro e w1 ⟨rfl, hb1⟩
    have s1 : w.heap.size + 2 ≤ w1.heap.size := by have := hb1.size; simpa using this
    have B1w : Below w.heap.size w w1 := (((Below.refl w.heap.size w).alloc (Nat.le_refl _) _).alloc (by simp) _).trans (hb1.mono (by simp; omega))
    have k1_1 := ((Bk.new w _ _).alloc _).st hb1
    have k2_1 := (Bk.new2 w _ _ _).st hb1
    have ry1_1 := ((ry1.alloc _).alloc _).st hb1
    have rz1_1 := ((rz1.alloc _).alloc _).st hb1
    have ry2_1 := ((ry2.alloc _).alloc _).st hb1
    have rz2_1 := ((rz2.alloc _).alloc _).st hb1
    clear hb1
    have x1_1 := k1_1.lt
    have x2_1 := k2_1.lt
    have a0 := k1_1.cell 0
    have a1 := k1_1.cell 1
    have b0 := k2_1.cell 0
    have b1 := k2_1.cell 1
    simp at a0 a1 b0 b1
    go_wp2
    go_ret2
    exact ImplZB.nil rfl hv2.out.symm B1w
  | true =>
    cases h2 : scB y2 z2 with
    | false =>
      have hb0 : cpB y1 z1 y2 z2 = false := by simp [cpB, h1, h2]
      rw [cpL_no hb0]
      have hv2 := Lib.hid hb0
      clear hb0
      go_enter Tryz.func36, Tryz.ntmps36
      go_wp2_with fail
      (with_reducible refine (iIsSecret_v y1 A1 c1 z1 B1 d1 _ ((ry1.alloc _).alloc _) ((rz1.alloc _).alloc _) hy1 hz1 _ h1).mono ?_)
      rintro e w1 ⟨rfl, hb1⟩
      have s1 : w.heap.size + 2 ≤ w1.heap.size := by have := hb1.size; simpa using this
      have B1w : Below w.heap.size w w1 := (((Below.refl w.heap.size w).alloc (Nat.le_refl _) _).alloc (by simp) _).trans (hb1.mono (by simp; omega))
      have k1_1 := ((Bk.new w _ _).alloc _).st hb1
      have k2_1 := (Bk.new2 w _ _ _).st hb1
      have ry1_1 := ((ry1.alloc _).alloc _).st hb1
      have rz1_1 := ((rz1.alloc _).alloc _).st hb1
      have ry2_1 := ((ry2.alloc _).alloc _).st hb1
      have rz2_1 := ((rz2.alloc _).alloc _).st hb1
      clear hb1
      have x1_1 := k1_1.lt
      have x2_1 := k2_1.lt
      have a0 := k1_1.cell 0
      have a1 := k1_1.cell 1
      have b0 := k2_1.cell 0
      have b1 := k2_1.cell 1
      simp at a0 a1 b0 b1
      go_wp2_with fail
      (with_reducible refine (iIsSecret_v y2 A2 c2 z2 B2 d2 _ ry2_1 rz2_1 hy2 hz2 _ h2).mono ?_)
      rintro e w2 ⟨rfl, hb2⟩
      have s2 : w1.heap.size ≤ w2.heap.size := hb2.size
      have B2w : Below w.heap.size w w2 := B1w.trans (hb2.mono (by omega))
      have k1_2 := k1_1.st hb2
      have k2_2 := k2_1.st hb2
      have ry1_2 := ry1_1.st hb2
      have rz1_2 := rz1_1.st hb2
      have ry2_2 := ry2_1.st hb2
      have rz2_2 := rz2_1.st hb2
      clear hb2 k1_1 k2_1 ry1_1 rz1_1 ry2_1 rz2_1 x1_1 x2_1 a0 a1 b0 b1
      have x1_2 := k1_2.lt
      have x2_2 := k2_2.lt
      have a0 := k1_2.cell 0
      have a1 := k1_2.cell 1
      have b0 := k2_2.cell 0
      have b1 := k2_2.cell 1
      simp at a0 a1 b0 b1
      go_wp2
      go_ret2
      exact ImplZB.nil rfl hv2.out.symm B2w
    | true =>
      cases h3 : eqL y1 y2 with
      | false =>
        have hb0 : cpB y1 z1 y2 z2 = false := by simp [cpB, h1, h2, h3]
        rw [cpL_no hb0]
        have hv2 := Lib.hid hb0
        clear hb0
        go_enter Tryz.func36, Tryz.ntmps36
        go_wp2_with fail
        (with_reducible refine (iIsSecret_v y1 A1 c1 z1 B1 d1 _ ((ry1.alloc _).alloc _) ((rz1.alloc _).alloc _) hy1 hz1 _ h1).mono ?_)
        rintro e w1 ⟨rfl, hb1⟩
        have s1 : w.heap.size + 2 ≤ w1.heap.size := by have := hb1.size; simpa using this
        have B1w : Below w.heap.size w w1 := (((Below.refl w.heap.size w).alloc (Nat.le_refl _) _).alloc (by simp) _).trans (hb1.mono (by simp; omega))
        have k1_1 := ((Bk.new w _ _).alloc _).st hb1
        have k2_1 := (Bk.new2 w _ _ _).st hb1
        have ry1_1 := ((ry1.alloc _).alloc _).st hb1
        have rz1_1 := ((rz1.alloc _).alloc _).st hb1
        have ry2_1 := ((ry2.alloc _).alloc _).st hb1
        have rz2_1 := ((rz2.alloc _).alloc _).st hb1
        clear hb1
        have x1_1 := k1_1.lt
        have x2_1 := k2_1.lt
        have a0 := k1_1.cell 0
        have a1 := k1_1.cell 1
        have b0 := k2_1.cell 0
        have b1 := k2_1.cell 1
        simp at a0 a1 b0 b1
        go_wp2_with fail
        (with_reducible refine (iIsSecret_v y2 A2 c2 z2 B2 d2 _ ry2_1 rz2_1 hy2 hz2 _ h2).mono ?_)
        rintro e w2 ⟨rfl, hb2⟩
        have s2 : w1.heap.size ≤ w2.heap.size := hb2.size
        have B2w : Below w.heap.size w w2 := B1w.trans (hb2.mono (by omega))
        have k1_2 := k1_1.st hb2
        have k2_2 := k2_1.st hb2
        have ry1_2 := ry1_1.st hb2
        have rz1_2 := rz1_1.st hb2
        have ry2_2 := ry2_1.st hb2
        have rz2_2 := rz2_1.st hb2
        clear hb2 k1_1 k2_1 ry1_1 rz1_1 ry2_1 rz2_1 x1_1 x2_1 a0 a1 b0 b1
        have x1_2 := k1_2.lt
        have x2_2 := k2_2.lt
        have a0 := k1_2.cell 0
        have a1 := k1_2.cell 1
        have b0 := k2_2.cell 0
        have b1 := k2_2.cell 1
        simp at a0 a1 b0 b1
        go_wp2_with fail
        (with_reducible refine (slEqual_v y1 y2 A1 A2 c1 c2 _ ry1_2 ry2_2 (by omega) (by omega) _ h3).mono ?_)
        rintro e w3 ⟨rfl, hb3⟩
        have s3 : w2.heap.size ≤ w3.heap.size := hb3.size
        have B3w : Below w.heap.size w w3 := B2w.trans (hb3.mono (by omega))
        have k1_3 := k1_2.st hb3
        have k2_3 := k2_2.st hb3
        have ry1_3 := ry1_2.st hb3
        have rz1_3 := rz1_2.st hb3
        have ry2_3 := ry2_2.st hb3
        have rz2_3 := rz2_2.st hb3
        clear hb3 k1_2 k2_2 ry1_2 rz1_2 ry2_2 rz2_2 x1_2 x2_2 a0 a1 b0 b1
        have x1_3 := k1_3.lt
        have x2_3 := k2_3.lt
        have a0 := k1_3.cell 0
        have a1 := k1_3.cell 1
        have b0 := k2_3.cell 0
        have b1 := k2_3.cell 1
        simp at a0 a1 b0 b1
        go_wp2
        go_ret2
        exact ImplZB.nil rfl hv2.out.symm B3w
      | true =>
        by_cases h4 : z1.length = z2.length
        · have hle : z1.length ≤ z2.length := by omega
          have hge : z2.length ≤ z1.length := by omega
          have hne : ((z1.length : Int) != (z2.length : Int)) = false := by simp [h4]
          have hlen : (cpL y1 z1 y2 z2).length ≤ 1048576 := Nat.le_trans (cpL_len y1 z1 y2 z2) hz1
          have hb0 : cpB y1 z1 y2 z2 = true := by simp [cpB, h1, h2, h3, h4]
          rw [cpL_yes hb0] at hlen ⊢
          have hv2 := Lib.hid hb0
          clear hb0 h4
          go_enter Tryz.func36, Tryz.ntmps36
          go_wp2_with fail
          (with_reducible refine (iIsSecret_v y1 A1 c1 z1 B1 d1 _ ((ry1.alloc _).alloc _) ((rz1.alloc _).alloc _) hy1 hz1 _ h1).mono ?_)
          rintro e w1 ⟨rfl, hb1⟩
          have s1 : w.heap.size + 2 ≤ w1.heap.size := by have := hb1.size; simpa using this
          have B1w : Below w.heap.size w w1 := (((Below.refl w.heap.size w).alloc (Nat.le_refl _) _).alloc (by simp) _).trans (hb1.mono (by simp; omega))
          have k1_1 := ((Bk.new w _ _).alloc _).st hb1
          have k2_1 := (Bk.new2 w _ _ _).st hb1
          have ry1_1 := ((ry1.alloc _).alloc _).st hb1
          have rz1_1 := ((rz1.alloc _).alloc _).st hb1
          have ry2_1 := ((ry2.alloc _).alloc _).st hb1
          have rz2_1 := ((rz2.alloc _).alloc _).st hb1
          clear hb1
          have x1_1 := k1_1.lt
          have x2_1 := k2_1.lt
          have a0 := k1_1.cell 0
          have a1 := k1_1.cell 1
          have b0 := k2_1.cell 0
          have b1 := k2_1.cell 1
          simp at a0 a1 b0 b1
          go_wp2_with fail
          (with_reducible refine (iIsSecret_v y2 A2 c2 z2 B2 d2 _ ry2_1 rz2_1 hy2 hz2 _ h2).mono ?_)
          rintro e w2 ⟨rfl, hb2⟩
          have s2 : w1.heap.size ≤ w2.heap.size := hb2.size
          have B2w : Below w.heap.size w w2 := B1w.trans (hb2.mono (by omega))
          have k1_2 := k1_1.st hb2
          have k2_2 := k2_1.st hb2
          have ry1_2 := ry1_1.st hb2
          have rz1_2 := rz1_1.st hb2
          have ry2_2 := ry2_1.st hb2
          have rz2_2 := rz2_1.st hb2
          clear hb2 k1_1 k2_1 ry1_1 rz1_1 ry2_1 rz2_1 x1_1 x2_1 a0 a1 b0 b1
          have x1_2 := k1_2.lt
          have x2_2 := k2_2.lt
          have a0 := k1_2.cell 0
          have a1 := k1_2.cell 1
          have b0 := k2_2.cell 0
          have b1 := k2_2.cell 1
          simp at a0 a1 b0 b1
          go_wp2_with fail
          (with_reducible refine (slEqual_v y1 y2 A1 A2 c1 c2 _ ry1_2 ry2_2 (by omega) (by omega) _ h3).mono ?_)
          rintro e w3 ⟨rfl, hb3⟩
          have s3 : w2.heap.size ≤ w3.heap.size := hb3.size
          have B3w : Below w.heap.size w w3 := B2w.trans (hb3.mono (by omega))
          have k1_3 := k1_2.st hb3
          have k2_3 := k2_2.st hb3
          have ry1_3 := ry1_2.st hb3
          have rz1_3 := rz1_2.st hb3
          have ry2_3 := ry2_2.st hb3
          have rz2_3 := rz2_2.st hb3
          clear hb3 k1_2 k2_2 ry1_2 rz1_2 ry2_2 rz2_2 x1_2 x2_2 a0 a1 b0 b1
          have x1_3 := k1_3.lt
          have x2_3 := k2_3.lt
          have a0 := k1_3.cell 0
          have a1 := k1_3.cell 1
          have b0 := k2_3.cell 0
          have b1 := k2_3.cell 1
          simp at a0 a1 b0 b1
          go_wp2
          go_loopw [6, 7, 8, 37] (fun v _ _ i wr => ∃ k : Nat, k ≤ z1.length ∧ i = .int .i64 k ∧ Own wr w3.heap.size wr.heap.size v (cpTo z1 z2 k) ∧ Below w3.heap.size w3 wr) (fun _ _ _ i _ => z1.length - (intOf i).toNat)
          case atStart => exact ⟨0, by omega, rfl, Own.nil, Below.refl _ _⟩
          case round =>
            obtain ⟨k, hk, rfl, hown, hbr⟩ := hrel
            have hdl := cpTo_len z1 z2 k
            have szr := hbr.size
            by_cases hlt : k < z1.length
            · have hlt2 : k < z2.length := by omega
              obtain ⟨p1, o1, rfl, _, _, hc1⟩ := (rz1_3.st hbr) (by omega)
              obtain ⟨p2, o2, rfl, _, _, hc2⟩ := (rz2_3.st hbr) (by omega)
              have hck1 := hc1 k hlt
              have hck2 := hc2 k hlt2
              have q2 := k2_3.st hbr
              have b0 := q2.cell 0
              have b1 := q2.cell 1
              have lq2 := q2.lt
              simp at b0 b1
              clear hc1 hc2 q2
              have yes := fun h => Lib.hid (cpTo_yes hlt hlt2 h)
              have no := fun h => Lib.hid (cpTo_no hlt hlt2 h)
              clear a0 a1 x1_3 x2_3
              cases he : (z1[k] != z2[k]) with
              | true =>
                have he' : (z2[k] != z1[k]) = true := by rw [bne_iff_ne] at he ⊢; exact fun h => he h.symm
                have hst := yes he
                clear yes no
                go_wp2_with (at_builtin; refine wp_append_ints rfl (.tmp 49) (.tmp 51) rfl rfl (hown.alloc _) (ys := [(k : Int)]) rfl ((Rd.one wr _ _ _ rfl).mono (Nat.zero_le _) (by simp)) (by simp; omega) (by simp; exact Nat.le_succ_of_le hbr.size) ?_; intro v2 wz hown2 hg2 hb2 hat2)
                have hb3 : Hid (Below w3.heap.size w3 wz) := (hbr.alloc hbr.size _).trans hb2
                have ho2 := Lib.hid hown2
                clear hown2 hb2 hg2 hat2 hown hbr
                go_roundw
                case rel => exact ⟨k + 1, by omega, by go_num, by rw [hst.out]; exact ho2.out, hb3.out⟩
                case measure => simp [intOf]; omega
              | false =>
                have he' : (z2[k] != z1[k]) = false := by rw [bne_eq_false_iff_eq] at he ⊢; exact he.symm
                have hst := no he
                have ho := Lib.hid hown
                clear yes no hown
                go_wp2
                go_roundw
                case rel => exact ⟨k + 1, by omega, by go_num, by rw [hst.out]; exact ho.out, hbr⟩
                case measure => simp [intOf]; omega
            · obtain rfl : k = z1.length := by omega
              obtain ⟨A, c, rfl, -, -⟩ := hown.rd
              have hbb : Hid (Below w.heap.size w wr) := B3w.trans (hbr.mono (by omega))
              have ho : Hid (Own wr w.heap.size wr.heap.size _ _) := hown.mono (by omega) (Nat.le_refl _)
              clear hown hbr
              go_wp2
              go_ret2
              exact ImplZB.mk rfl rfl hv2.out.symm ho.out (Nat.le_refl _) hlen hbb.out
        · have hne : ((z1.length : Int) != (z2.length : Int)) = true := by simp; omega
          have hb0 : cpB y1 z1 y2 z2 = false := by simp [cpB, h1, h2, h3, h4]; omega
          rw [cpL_no hb0]
          have hv2 := Lib.hid hb0
          clear hb0
          go_enter Tryz.func36, Tryz.ntmps36
          go_wp2_with fail
          (with_reducible refine (iIsSecret_v y1 A1 c1 z1 B1 d1 _ ((ry1.alloc _).alloc _) ((rz1.alloc _).alloc _) hy1 hz1 _ h1).mono ?_)
          rintro e w1 ⟨rfl, hb1⟩
          have s1 : w.heap.size + 2 ≤ w1.heap.size := by have := hb1.size; simpa using this
          have B1w : Below w.heap.size w w1 := (((Below.refl w.heap.size w).alloc (Nat.le_refl _) _).alloc (by simp) _).trans (hb1.mono (by simp; omega))
          have k1_1 := ((Bk.new w _ _).alloc _).st hb1
          have k2_1 := (Bk.new2 w _ _ _).st hb1
          have ry1_1 := ((ry1.alloc _).alloc _).st hb1
          have rz1_1 := ((rz1.alloc _).alloc _).st hb1
          have ry2_1 := ((ry2.alloc _).alloc _).st hb1
          have rz2_1 := ((rz2.alloc _).alloc _).st hb1
          clear hb1
          have x1_1 := k1_1.lt
          have x2_1 := k2_1.lt
          have a0 := k1_1.cell 0
          have a1 := k1_1.cell 1
          have b0 := k2_1.cell 0
          have b1 := k2_1.cell 1
          simp at a0 a1 b0 b1
          go_wp2_with fail
          (with_reducible refine (iIsSecret_v y2 A2 c2 z2 B2 d2 _ ry2_1 rz2_1 hy2 hz2 _ h2).mono ?_)
          rintro e w2 ⟨rfl, hb2⟩
          have s2 : w1.heap.size ≤ w2.heap.size := hb2.size
          have B2w : Below w.heap.size w w2 := B1w.trans (hb2.mono (by omega))
          have k1_2 := k1_1.st hb2
          have k2_2 := k2_1.st hb2
          have ry1_2 := ry1_1.st hb2
          have rz1_2 := rz1_1.st hb2
          have ry2_2 := ry2_1.st hb2
          have rz2_2 := rz2_1.st hb2
          clear hb2 k1_1 k2_1 ry1_1 rz1_1 ry2_1 rz2_1 x1_1 x2_1 a0 a1 b0 b1
          have x1_2 := k1_2.lt
          have x2_2 := k2_2.lt
          have a0 := k1_2.cell 0
          have a1 := k1_2.cell 1
          have b0 := k2_2.cell 0
          have b1 := k2_2.cell 1
          simp at a0 a1 b0 b1
          go_wp2_with fail
          (with_reducible refine (slEqual_v y1 y2 A1 A2 c1 c2 _ ry1_2 ry2_2 (by omega) (by omega) _ h3).mono ?_)
          rintro e w3 ⟨rfl, hb3⟩
          have s3 : w2.heap.size ≤ w3.heap.size := hb3.size
          have B3w : Below w.heap.size w w3 := B2w.trans (hb3.mono (by omega))
          have k1_3 := k1_2.st hb3
          have k2_3 := k2_2.st hb3
          have ry1_3 := ry1_2.st hb3
          have rz1_3 := rz1_2.st hb3
          have ry2_3 := ry2_2.st hb3
          have rz2_3 := rz2_2.st hb3
          clear hb3 k1_2 k2_2 ry1_2 rz1_2 ry2_2 rz2_2 x1_2 x2_2 a0 a1 b0 b1
          have x1_3 := k1_3.lt
          have x2_3 := k2_3.lt
          have a0 := k1_3.cell 0
          have a1 := k1_3.cell 1
          have b0 := k2_3.cell 0
          have b1 := k2_3.cell 1
          simp at a0 a1 b0 b1
          go_wp2
          go_ret2
          exact ImplZB.nil rfl hv2.out.symm B3w
end Go.Proofs.YtjhbffndiaggmaaGreatDoor
