/-
  Plain functions on lists of integers, and their laws. No program here.
-/
import Derived.WalkKit
namespace Go.Proofs.YtjhbffndiaggmaaDoor

def inB (n lo hi : Int) : Bool := decide (lo ≤ n ∧ n ≤ hi)
theorem inB_t {n lo hi : Int} (h : lo ≤ n ∧ n ≤ hi) : inB n lo hi = true := by simp [inB, h]
theorem inB_f {n lo hi : Int} (h : ¬ (lo ≤ n ∧ n ≤ hi)) : inB n lo hi = false := by simpa [inB] using h
theorem inB_iff {n lo hi : Int} : inB n lo hi = true ↔ lo ≤ n ∧ n ≤ hi := by simp [inB]
def allB (zs : List Int) (lo hi : Int) : Bool := zs.all fun z => decide (lo ≤ z ∧ z ≤ hi)
theorem allB_nil (lo hi : Int) : allB [] lo hi = true := rfl
theorem allB_snoc {zs : List Int} {lo hi : Int} {k : Nat} (h : k < zs.length) (h1 : allB (zs.take k) lo hi = true) (h2 : lo ≤ zs[k] ∧ zs[k] ≤ hi) : allB (zs.take (k+1)) lo hi = true := by
  unfold allB at *
  rw [List.take_succ_eq_append_getElem h, List.all_append, h1]
  simp [h2]
theorem allB_false {zs : List Int} {lo hi : Int} {k : Nat} (h : k < zs.length) (h1 : ¬ (lo ≤ zs[k] ∧ zs[k] ≤ hi)) : allB zs lo hi = false := by
  unfold allB
  rw [List.all_eq_false]
  exact ⟨zs[k], List.getElem_mem h, by simpa using h1⟩
theorem allB_iff {zs : List Int} {lo hi : Int} : allB zs lo hi = true ↔ ∀ k (_ : k < zs.length), lo ≤ zs[k] ∧ zs[k] ≤ hi := by
  constructor
  · intro h k hk
    by_cases hc : lo ≤ zs[k] ∧ zs[k] ≤ hi
    · exact hc
    · rw [allB_false hk hc] at h; cases h
  · intro h
    unfold allB
    rw [List.all_eq_true]
    intro x hx
    obtain ⟨k, hk, rfl⟩ := List.getElem_of_mem hx
    simpa using h k hk

/-- equal lists -/
def eqL (xs ys : List Int) : Bool := decide (xs = ys)
theorem eqL_len {xs ys : List Int} (h : xs.length ≠ ys.length) : eqL xs ys = false := by
  simp only [eqL, decide_eq_false_iff_not]; intro e; exact h (by rw [e])
theorem eqL_at {xs ys : List Int} {k : Nat} (h1 : k < xs.length) (h2 : k < ys.length) (h : xs[k] ≠ ys[k]) : eqL xs ys = false := by
  simp only [eqL, decide_eq_false_iff_not]; intro e; subst e; exact h rfl
theorem eqL_take {xs ys : List Int} (hl : xs.length = ys.length) (h : ∀ j (h1 : j < xs.length) (h2 : j < ys.length), xs[j] = ys[j]) : eqL xs ys = true := by
  simp only [eqL, decide_eq_true_eq]; exact List.ext_getElem hl h
theorem eqL_self (xs : List Int) : eqL xs xs = true := by simp [eqL]
theorem eqL_true {xs ys : List Int} (h : eqL xs ys = true) : xs = ys := by simpa [eqL] using h

/-- k, k+1, .. in the first j places -/
def fillTo (zs : List Int) (k : Int) (j : Nat) : List Int := (List.range j).map (fun i : Nat => k + (i : Int)) ++ zs.drop j
theorem fillTo_zero (zs : List Int) (k : Int) : fillTo zs k 0 = zs := by simp [fillTo]
theorem fillTo_length (zs : List Int) (k : Int) (j : Nat) (h : j ≤ zs.length) : (fillTo zs k j).length = zs.length := by simp [fillTo]; omega
theorem fillTo_succ (zs : List Int) (k : Int) (j : Nat) (h : j < zs.length) : (fillTo zs k j).set j (k + (j : Int)) = fillTo zs k (j + 1) := by
  unfold fillTo
  rw [List.set_append_right _ _ (by simp), List.range_succ, List.map_append, List.append_assoc]
  simp only [List.length_map, List.length_range, Nat.sub_self, List.map_cons, List.map_nil]
  rw [List.drop_eq_getElem_cons h]
  rfl
def fill (k : Int) (n : Nat) : List Int := (List.range n).map (fun i : Nat => k + (i : Int))
theorem fillTo_all (zs : List Int) (k : Int) : fillTo zs k zs.length = fill k zs.length := by simp [fillTo, fill]
theorem fill_length (k : Int) (n : Nat) : (fill k n).length = n := by simp [fill]
theorem fill_at (k : Int) (n j : Nat) (h : j < (fill k n).length) : (fill k n)[j] = k + (j : Int) := by simp [fill]

/-- the first k of zs, and zeros behind -/
def tk (zs : List Int) (k : Nat) : List Int := zs.take k ++ List.replicate (zs.length - k) 0
theorem tk_zero (zs : List Int) : tk zs 0 = List.replicate zs.length 0 := by simp [tk]
theorem tk_all (zs : List Int) : tk zs zs.length = zs := by simp [tk]
theorem tk_length (zs : List Int) (k : Nat) (h : k ≤ zs.length) : (tk zs k).length = zs.length := by simp [tk]; omega
theorem tk_succ (zs : List Int) (k : Nat) (h : k < zs.length) : (tk zs k).set k zs[k] = tk zs (k + 1) := by
  unfold tk
  have hl : (zs.take k).length = k := by simp; omega
  rw [List.set_append_right _ _ (by omega), hl, Nat.sub_self]
  obtain ⟨m, hm⟩ : ∃ m, zs.length - k = m + 1 := ⟨zs.length - k - 1, by omega⟩
  rw [hm, List.replicate_succ, List.set_cons_zero, List.take_succ_eq_append_getElem h, List.append_assoc, show zs.length - (k + 1) = m from by omega]
  rfl

/-- strictly increasing -/
def risB (zs : List Int) : Bool := (List.range (zs.length - 1)).all fun k => decide (zs[k]?.getD 0 < zs[k + 1]?.getD 0)
theorem risB_iff {zs : List Int} : risB zs = true ↔ ∀ k (h : k + 1 < zs.length), zs[k] < zs[k + 1] := by
  unfold risB
  rw [List.all_eq_true]
  constructor
  · intro h k hk
    have := h k (by simp; omega)
    simpa [hk, show k < zs.length by omega] using this
  · intro h k hk
    simp at hk
    have := h k (by omega)
    simpa [show k + 1 < zs.length by omega, show k < zs.length by omega] using this
theorem risB_false {zs : List Int} {k : Nat} (h : k + 1 < zs.length) (h1 : ¬ zs[k] < zs[k + 1]) : risB zs = false := by
  cases hr : risB zs with
  | false => rfl
  | true => exact absurd (risB_iff.1 hr k h) h1
theorem risB_true {zs : List Int} (hh : ∀ k (h : k + 1 < zs.length), zs[k] < zs[k + 1]) : risB zs = true := risB_iff.2 hh

def risinB (zs : List Int) (lo hi : Int) : Bool := allB zs lo hi && risB zs
theorem risinB_false {zs : List Int} {lo hi : Int} {k : Nat} (h : k < zs.length) (h1 : ¬ (lo ≤ zs[k] ∧ zs[k] ≤ hi)) : risinB zs lo hi = false := by simp [risinB, allB_false h h1]
theorem risinB_false' {zs : List Int} {lo hi : Int} {k : Nat} (h : k + 1 < zs.length) (h1 : ¬ zs[k] < zs[k + 1]) : risinB zs lo hi = false := by simp [risinB, risB_false h h1]
theorem risinB_true {zs : List Int} {lo hi : Int} (h1 : ∀ k (_ : k < zs.length), lo ≤ zs[k] ∧ zs[k] ≤ hi) (h2 : ∀ k (h : k + 1 < zs.length), zs[k] < zs[k + 1]) : risinB zs lo hi = true := by
  simp [risinB, allB_iff.2 h1, risB_true h2]

/-- a valid key book -/
def kbB (key pages : Int) (zs : List Int) : Bool := inB key 0 1000000000 && (inB pages 1 60 && risinB zs 0 (pages - 1))

/-- a number is in a list -/
def hasB (zs : List Int) (n : Int) : Bool := decide (n ∈ zs)
theorem hasB_at {zs : List Int} {n : Int} {k : Nat} (h : k < zs.length) (h1 : zs[k] = n) : hasB zs n = true := by
  simp only [hasB, decide_eq_true_eq]; rw [← h1]; exact List.getElem_mem h
theorem hasB_no {zs : List Int} {n : Int} (h : ∀ k (_ : k < zs.length), zs[k] ≠ n) : hasB zs n = false := by
  simp only [hasB, decide_eq_false_iff_not]
  intro hm
  obtain ⟨k, hk, e⟩ := List.getElem_of_mem hm
  exact h k hk e
/-- the first place of a number, or -1 -/
def idxI (zs : List Int) (n : Int) : Int := match zs.findIdx? (· == n) with | some k => (k : Int) | none => -1
theorem idxI_at {zs : List Int} {n : Int} {k : Nat} (h : k < zs.length) (h1 : zs[k] = n) (h2 : ∀ j (h3 : j < zs.length), j < k → zs[j] ≠ n) : idxI zs n = (k : Int) := by
  have : zs.findIdx? (· == n) = some k := by
    rw [List.findIdx?_eq_some_iff_getElem]
    exact ⟨h, by simp [h1], fun j hj => by simpa using h2 j (by omega) hj⟩
  simp [idxI, this]
theorem idxI_no {zs : List Int} {n : Int} (h : ∀ k (_ : k < zs.length), zs[k] ≠ n) : idxI zs n = -1 := by
  have : zs.findIdx? (· == n) = none := by
    rw [List.findIdx?_eq_none_iff]
    intro x hx
    obtain ⟨k, hk, e⟩ := List.getElem_of_mem hx
    have := h k hk
    simp [← e, this]
  simp [idxI, this]
theorem idxI_has (zs : List Int) (n : Int) : hasB zs n = decide (0 ≤ idxI zs n) := by
  by_cases hm : n ∈ zs
  · obtain ⟨k, hk, e⟩ := List.getElem_of_mem hm
    rw [hasB_at hk e]
    cases hf : zs.findIdx? (· == n) with
    | some k => simp [idxI, hf]
    | none =>
      rw [List.findIdx?_eq_none_iff] at hf
      have := hf n hm
      simp at this
  · have h : ∀ k (_ : k < zs.length), zs[k] ≠ n := fun k hk e => hm (e ▸ List.getElem_mem hk)
    rw [hasB_no h, idxI_no h]
    simp
theorem idxI_range (zs : List Int) (n : Int) : -1 ≤ idxI zs n ∧ idxI zs n < zs.length + 1 := by
  unfold idxI
  split
  · rename_i k hf
    rw [List.findIdx?_eq_some_iff_getElem] at hf
    obtain ⟨h, _⟩ := hf
    omega
  · omega

/-- the mix of numbers -/
def mixStep (a x : Int) : Int := ((19 * a + x + 23) % 1000003) * (((19 * a + x + 23) % 1000003) / 16 + 11) % 1000003
def mixTo (a : Int) (l : List Int) : Int := l.foldl mixStep a
def mixL (keys : List Int) : Int := mixTo (6907 + keys.length) (keys ++ [3, 7])
theorem mixStep_bd (a x : Int) : 0 ≤ mixStep a x ∧ mixStep a x < 1000003 := by
  unfold mixStep
  exact ⟨Int.emod_nonneg _ (by omega), Int.emod_lt_of_pos _ (by omega)⟩
theorem mixTo_snoc (a : Int) (l : List Int) (k : Nat) (h : k < l.length) : mixTo a (l.take (k + 1)) = mixStep (mixTo a (l.take k)) l[k] := by
  unfold mixTo
  rw [List.take_succ_eq_append_getElem h, List.foldl_append]
  rfl
theorem mixTo_bd (a : Int) (l : List Int) (B : Int) (h0 : 0 ≤ a) (h1 : a ≤ B) (h2 : 1000003 ≤ B) : 0 ≤ mixTo a l ∧ mixTo a l ≤ B := by
  unfold mixTo
  induction l generalizing a with
  | nil => exact ⟨h0, h1⟩
  | cons x l ih =>
    have := mixStep_bd a x
    exact ih (mixStep a x) (by omega) (by omega)
theorem mixL_bd (keys : List Int) : 0 ≤ mixL keys ∧ mixL keys < 1000003 := by
  unfold mixL mixTo
  rw [List.foldl_append]
  exact mixStep_bd _ _
/-- what a mix runs over -/
def mixKeys (zs : List Int) : List Int := zs ++ [3, 7]
theorem mixKeys_len (zs : List Int) : (mixKeys zs).length = zs.length + 2 := by simp [mixKeys]
theorem mixKeys_bd {zs : List Int} (ha : allB zs 0 1000000000 = true) : ∀ (k : Nat) (h : k < (mixKeys zs).length), 0 ≤ (mixKeys zs)[k] ∧ (mixKeys zs)[k] ≤ 1000000000 := by
  have : allB (mixKeys zs) 0 1000000000 = true := by unfold allB mixKeys at *; rw [List.all_append, ha]; rfl
  exact allB_iff.1 this
theorem mixStep_eq (a x b : Int) (hb : b = (19 * a + x + 23) % 1000003) : mixStep a x = b * (b / 16 + 11) % 1000003 := by subst hb; rfl

end Go.Proofs.YtjhbffndiaggmaaDoor
