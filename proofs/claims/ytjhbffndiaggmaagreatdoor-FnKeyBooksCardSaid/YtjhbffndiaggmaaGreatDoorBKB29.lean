/-
  Contracts and plain laws that the walk uses, several texts in one. The conditions are named ahead of each.
-/
import Derived.Test.YtjhbffndiaggmaaGreatDoorZKBSecret
import Derived.Test.YtjhbffndiaggmaaGreatDoorBKB19
import Derived.Test.YtjhbffndiaggmaaGreatDoorBKB1

/-
  The reference's validity of a secret, as the statement calls it. The conditions are bounds on lengths, and that there is room for what is read.
-/
namespace Go.Proofs.YtjhbffndiaggmaaGreatDoor
open Go.RowKit Go.ChangeShapes Go.WideShapes
end Go.Proofs.YtjhbffndiaggmaaGreatDoor

/-
  Contracts of OpenSecret. The conditions are bounds on lengths, and room for what the reference reads.
-/
namespace Go.Proofs.YtjhbffndiaggmaaGreatDoor
open Go.RowKit Go.ChangeShapes Go.WideShapes
set_option linter.unusedVariables false
set_option linter.unusedSimpArgs false

theorem sc_facts {y z : List Int} (h : scB y z = true) : z.length ≤ 60 ∧ (∀ k (_ : k < z.length), 1 ≤ z[k] ∧ z[k] ≤ 60) ∧ 20 * y.length < z.length + 20 ∧ z.length ≤ 20 * y.length ∧ (∀ k (_ : k < y.length), 0 ≤ y[k] ∧ y[k] ≤ 59) := by
  simp only [scB, Bool.and_eq_true, decide_eq_true_eq] at h
  obtain ⟨h1, h2, h3, h4, h5⟩ := h
  have h6 : (y.length : Int) = ((z.length : Int) + 20 - 1) / 20 := h3
  exact ⟨h1, allB_iff.1 h2, by omega, by omega, allB_iff.1 h4⟩
def osB (k1 p1 : Int) (us y z : List Int) : Bool := kbB k1 p1 us && (scB y z && allB y 0 (p1 - 1))
def osL (k1 p1 : Int) (us y z : List Int) : List Int := if osB k1 p1 us y z then shL z (numsL k1 y) (-1) else []
theorem osL_no {k1 p1 : Int} {us y z : List Int} (h : osB k1 p1 us y z = false) : osL k1 p1 us y z = [] := by simp [osL, h]
theorem osL_yes {k1 p1 : Int} {us y z : List Int} (h : osB k1 p1 us y z = true) : osL k1 p1 us y z = shL z (numsL k1 y) (-1) := by simp [osL, h]
theorem kb_pages {k1 p1 : Int} {us : List Int} (h : kbB k1 p1 us = true) : (0 ≤ k1 ∧ k1 ≤ 1000000000) ∧ 1 ≤ p1 ∧ p1 ≤ 60 := by
  simp only [kbB, Bool.and_eq_true] at h; exact ⟨inB_iff.1 h.1, inB_iff.1 h.2.1⟩
theorem iIsSecret_w (y1 : List Int) (A1 : Option Addr) (c1 : Nat) (z1 : List Int) (B1 : Option Addr) (d1 : Nat) {l h l' h' : Nat} (w : World) (hr1 : Rd w l h A1 y1) (hr2 : Rd w l' h' B1 z1) (hl1 : y1.length ≤ 1048576) (hl2 : z1.length ≤ 1048576) (hcap : True) (v : Bool) (hv : scB y1 z1 = v) :
    Calls Tryz.prog 49 #[.agg #[.slice A1 y1.length c1, .slice B1 z1.length d1]] w fun e w' => e = .returned (.bool v) ∧ Below w.heap.size w w' := by
  subst hv; exact iIsSecret_any y1 A1 c1 z1 B1 d1 w hr1 hr2 hl1 hl2
theorem scGood_w (y1 : List Int) (A1 : Option Addr) (c1 : Nat) (z1 : List Int) (B1 : Option Addr) (d1 : Nat) {l h l' h' : Nat} (w : World) (hr1 : Rd w l h A1 y1) (hr2 : Rd w l' h' B1 z1) (hl1 : y1.length ≤ 1048576) (hl2 : z1.length ≤ 1048576) (hcap : y1.length ≤ c1) (v : Bool) (hv : scB y1 z1 = v) :
    Calls Tryz.prog 117 #[.agg #[.slice A1 y1.length c1, .slice B1 z1.length d1]] w fun e w' => e = .returned (.bool v) ∧ Below w.heap.size w w' := by
  subst hv; exact scGood_any y1 A1 c1 z1 B1 d1 w hr1 hr2 hl1 hl2 hcap
theorem l1All_w (zs : List Int) (A : Option Addr) (c : Nat) {l h : Nat} (lo hi : Int) (w : World) (hr : Rd w l h A zs) (hl : zs.length ≤ 1048576) (v : Bool) (hv : allB zs lo hi = v) :
    Calls Tryz.prog 186 #[.slice A zs.length c, .int .i64 lo, .int .i64 hi] w fun e w' => e = .returned (.bool v) ∧ w = w' := by
  rw [← hv]; exact l1All_any zs A c lo hi w hr (by omega)
end Go.Proofs.YtjhbffndiaggmaaGreatDoor

/-
  Plain functions for secrets that are made and received, and for key books that are merged, and their laws. No program here.
-/
namespace Go.Proofs.YtjhbffndiaggmaaGreatDoor
set_option linter.unusedVariables false
set_option linter.unusedSimpArgs false

theorem ufP_at (us : List Int) (m j : Nat) (h : j < (ufP us m).length) : (ufP us m)[j] = (pfx (ufU us j) : Int) := by simp [ufP]
theorem ufP_bd {key pages : Int} {us : List Int} (h : kbB key pages us = true) {m : Nat} (hm : (us.length : Int) + (m : Int) ≤ pages) : ∀ j (_ : j < (ufP us m).length), 0 ≤ (ufP us m)[j] ∧ (ufP us m)[j] ≤ 59 := by
  intro j hj
  rw [ufP_at]
  rw [ufP_len] at hj
  obtain ⟨h1, h2⟩ := kb_iter h j (by omega)
  obtain ⟨_, _, _, h3⟩ := kb_step h1 (by omega)
  have := (kb_facts h).2.1
  omega

/-! ### a message that is hidden -/
def hmB (key pages : Int) (us ss : List Int) : Bool := decide (ss.length ≤ 60) && (allB ss 1 60 && ufB key pages us (ss.length : Int))
def hmK (key pages : Int) (us ss : List Int) : Int := if hmB key pages us ss then key else 0
def hmG (key pages : Int) (us ss : List Int) : Int := if hmB key pages us ss then pages else 0
def hmL (key pages : Int) (us ss : List Int) : List Int := if hmB key pages us ss then ufU us (ufM (ss.length : Int)) else []
def hmP (key pages : Int) (us ss : List Int) : List Int := if hmB key pages us ss then ufP us (ufM (ss.length : Int)) else []
def hmS (key pages : Int) (us ss : List Int) : List Int := if hmB key pages us ss then shL ss (numsL key (ufP us (ufM (ss.length : Int)))) 1 else []
theorem hm_no {key pages : Int} {us ss : List Int} (h : hmB key pages us ss = false) : hmK key pages us ss = 0 ∧ hmG key pages us ss = 0 ∧ hmL key pages us ss = [] ∧ hmP key pages us ss = [] ∧ hmS key pages us ss = [] := by
  simp [hmK, hmG, hmL, hmP, hmS, h]
theorem hm_yes {key pages : Int} {us ss : List Int} (h : hmB key pages us ss = true) : hmK key pages us ss = key ∧ hmG key pages us ss = pages ∧ hmL key pages us ss = ufU us (ufM (ss.length : Int)) ∧ hmP key pages us ss = ufP us (ufM (ss.length : Int)) ∧ hmS key pages us ss = shL ss (numsL key (ufP us (ufM (ss.length : Int)))) 1 := by
  simp [hmK, hmG, hmL, hmP, hmS, h]
theorem hm_facts {key pages : Int} {us ss : List Int} (h1 : ss.length ≤ 60) (h2 : allB ss 1 60 = true) (h3 : ufB key pages us (ss.length : Int) = true) :
    (0 ≤ key ∧ key ≤ 1000000000) ∧ (∀ k (_ : k < ss.length), 1 ≤ ss[k] ∧ ss[k] ≤ 60) ∧ (ufP us (ufM (ss.length : Int))).length ≤ 60 ∧ ss.length ≤ 20 * (ufP us (ufM (ss.length : Int))).length ∧ 20 * (ufP us (ufM (ss.length : Int))).length < ss.length + 20 ∧
      (∀ k (_ : k < (ufP us (ufM (ss.length : Int))).length), 0 ≤ (ufP us (ufM (ss.length : Int)))[k] ∧ (ufP us (ufM (ss.length : Int)))[k] ≤ 59) := by
  simp only [ufB, Bool.and_eq_true, decide_eq_true_eq] at h3
  have hm := uf_m (n := (ss.length : Int)) (by omega) (by omega)
  refine ⟨(kb_facts h3.1).1, allB_iff.1 h2, by rw [ufP_len]; exact hm.2.1, by rw [ufP_len]; omega, by rw [ufP_len]; omega, ufP_bd h3.1 h3.2.2⟩

/-! ### a secret that is received -/
def putM (us y : List Int) : List Int := y.foldl putL us
theorem putM_zero (us y : List Int) : putM us (y.take 0) = us := rfl
theorem putM_succ (us y : List Int) (k : Nat) (h : k < y.length) : putM us (y.take (k + 1)) = putL (putM us (y.take k)) y[k] := by
  unfold putM; rw [List.take_succ_eq_append_getElem h, List.foldl_append]; rfl
theorem putM_mem {us y : List Int} {x : Int} : x ∈ putM us y ↔ x ∈ us ∨ x ∈ y := by
  unfold putM
  induction y generalizing us with
  | nil => simp
  | cons a y ih =>
    rw [List.foldl_cons, ih, putL_mem, List.mem_cons]
    constructor
    · rintro ((h | h) | h)
      · exact .inl h
      · exact .inr (.inl h)
      · exact .inr (.inr h)
    · rintro (h | h | h)
      · exact .inl (.inl h)
      · exact .inl (.inr h)
      · exact .inr h
theorem putM_pw {us y : List Int} (h : us.Pairwise (· < ·)) : (putM us y).Pairwise (· < ·) := by
  unfold putM
  induction y generalizing us with
  | nil => exact h
  | cons a y ih => exact ih (putL_pw h)
theorem putM_len (us y : List Int) : (putM us y).length ≤ us.length + y.length := by
  unfold putM
  induction y generalizing us with
  | nil => simp
  | cons a y ih => have := ih (us := putL us a); have := putL_len us a; simp only [List.foldl_cons, List.length_cons]; omega
theorem putL_len_le (zs : List Int) (n : Int) : zs.length ≤ (putL zs n).length := by
  induction zs with
  | nil => simp [putL]
  | cons z zs ih =>
    unfold putL
    split
    · simp; omega
    · split <;> simp
theorem putM_kb {key pages : Int} {us y : List Int} (h : kbB key pages us = true) (hy : ∀ k (_ : k < y.length), 0 ≤ y[k] ∧ y[k] ≤ pages - 1) : kbB key pages (putM us y) = true := by
  obtain ⟨hk, hp, hpw, hbd⟩ := kb_facts h
  simp only [kbB, risinB, Bool.and_eq_true, inB_iff]
  refine ⟨hk, hp, allB_iff.2 fun j hj => ?_, ris_of_pw (putM_pw hpw)⟩
  rcases putM_mem.1 (List.getElem_mem hj) with hm | hm
  · obtain ⟨i, hi, e3⟩ := List.getElem_of_mem hm
    rw [← e3]; exact hbd i hi
  · obtain ⟨i, hi, e3⟩ := List.getElem_of_mem hm
    rw [← e3]; exact hy i hi
/-- none of the pages was used -/
def newB (us y : List Int) : Bool := y.all fun p => !hasB us p
theorem newB_at {us y : List Int} {k : Nat} (h : k < y.length) (h1 : hasB us y[k] = true) : newB us y = false := by
  unfold newB
  rw [List.all_eq_false]
  exact ⟨y[k], List.getElem_mem h, by simp [h1]⟩
theorem newB_iff {us y : List Int} : newB us y = true ↔ ∀ k (_ : k < y.length), hasB us y[k] = false := by
  unfold newB
  rw [List.all_eq_true]
  constructor
  · intro h k hk
    have := h y[k] (List.getElem_mem hk)
    simpa using this
  · intro h x hx
    obtain ⟨k, hk, rfl⟩ := List.getElem_of_mem hx
    simp [h k hk]
theorem hasB_putM {us y : List Int} {k : Nat} (hy : y.Nodup) (h : k < y.length) : hasB (putM us (y.take k)) y[k] = hasB us y[k] := by
  unfold hasB
  congr 1
  rw [putM_mem]
  apply propext
  constructor
  · rintro (h1 | h1)
    · exact h1
    · exfalso
      obtain ⟨i, hi, e⟩ := List.getElem_of_mem h1
      rw [List.length_take] at hi
      rw [List.getElem_take] at e
      exact List.pairwise_iff_getElem.1 hy i k (by omega) h (by omega) e
  · exact .inl
def rsB (key pages : Int) (us y z : List Int) : Bool := osB key pages us y z && newB us y
def rsK (key pages : Int) (us y z : List Int) : Int := if rsB key pages us y z then key else 0
def rsG (key pages : Int) (us y z : List Int) : Int := if rsB key pages us y z then pages else 0
def rsL (key pages : Int) (us y z : List Int) : List Int := if rsB key pages us y z then putM us y else []
def rsS (key pages : Int) (us y z : List Int) : List Int := if rsB key pages us y z then shL z (numsL key y) (-1) else []
theorem rs_no {key pages : Int} {us y z : List Int} (h : rsB key pages us y z = false) : rsK key pages us y z = 0 ∧ rsG key pages us y z = 0 ∧ rsL key pages us y z = [] ∧ rsS key pages us y z = [] := by simp [rsK, rsG, rsL, rsS, h]
theorem rs_yes {key pages : Int} {us y z : List Int} (h : rsB key pages us y z = true) : rsK key pages us y z = key ∧ rsG key pages us y z = pages ∧ rsL key pages us y z = putM us y ∧ rsS key pages us y z = shL z (numsL key y) (-1) := by simp [rsK, rsG, rsL, rsS, h]

/-! ### key books that are merged -/
def mbK (k1 p1 : Int) (z1 : List Int) (k2 p2 : Int) (z2 : List Int) : Int := if kpB k1 p1 z1 k2 p2 z2 then k1 else 0
def mbG (k1 p1 : Int) (z1 : List Int) (k2 p2 : Int) (z2 : List Int) : Int := if kpB k1 p1 z1 k2 p2 z2 then p1 else 0
def mbL (k1 p1 : Int) (z1 : List Int) (k2 p2 : Int) (z2 : List Int) : List Int := if kpB k1 p1 z1 k2 p2 z2 then putM z1 z2 else []
theorem mb_no {k1 p1 : Int} {z1 : List Int} {k2 p2 : Int} {z2 : List Int} (h : kpB k1 p1 z1 k2 p2 z2 = false) : mbK k1 p1 z1 k2 p2 z2 = 0 ∧ mbG k1 p1 z1 k2 p2 z2 = 0 ∧ mbL k1 p1 z1 k2 p2 z2 = [] := by simp [mbK, mbG, mbL, h]
theorem mb_yes {k1 p1 : Int} {z1 : List Int} {k2 p2 : Int} {z2 : List Int} (h : kpB k1 p1 z1 k2 p2 z2 = true) : mbK k1 p1 z1 k2 p2 z2 = k1 ∧ mbG k1 p1 z1 k2 p2 z2 = p1 ∧ mbL k1 p1 z1 k2 p2 z2 = putM z1 z2 := by simp [mbK, mbG, mbL, h]
end Go.Proofs.YtjhbffndiaggmaaGreatDoor
