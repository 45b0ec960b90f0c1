/-
  Contracts and plain laws that the walk uses, several texts in one. The conditions are named ahead of each.
-/
import Derived.WalkKit

/-
  Plain functions on lists of integers, and their laws. No program here.
-/
namespace Go.Proofs.YtjhbffndiaggmaaGreatDoor

def inB (n lo hi : Int) : Bool := decide (lo ≤ n ∧ n ≤ hi)
theorem inB_t {n lo hi : Int} (h : lo ≤ n ∧ n ≤ hi) : inB n lo hi = true := by simp [inB, h]
theorem inB_f {n lo hi : Int} (h : ¬ (lo ≤ n ∧ n ≤ hi)) : inB n lo hi = false := by simpa [inB] using h
theorem inB_iff {n lo hi : Int} : inB n lo hi = true ↔ lo ≤ n ∧ n ≤ hi := by simp [inB]
def allB (zs : List Int) (lo hi : Int) : Bool := zs.all fun z => decide (lo ≤ z ∧ z ≤ hi)
theorem allB_nil (lo hi : Int) : allB [] lo hi = true := rfl
theorem allB_snoc {zs : List Int} {lo hi : Int} {k : Nat} (h : k < zs.length) (h1 : allB (zs.take k) lo hi = true) (h2 : lo ≤ zs[k] ∧ zs[k] ≤ hi) : allB (zs.take (k+1)) lo hi = true := by
  unfold allB at *
  rw [List.take_succ_eq_append_getElem h, List.all_append, h1]
  simp [h2]
theorem allB_false {zs : List Int} {lo hi : Int} {k : Nat} (h : k < zs.length) (h1 : ¬ (lo ≤ zs[k] ∧ zs[k] ≤ hi)) : allB zs lo hi = false := by
  unfold allB
  rw [List.all_eq_false]
  exact ⟨zs[k], List.getElem_mem h, by simpa using h1⟩
theorem allB_iff {zs : List Int} {lo hi : Int} : allB zs lo hi = true ↔ ∀ k (_ : k < zs.length), lo ≤ zs[k] ∧ zs[k] ≤ hi := by
  constructor
  · intro h k hk
    by_cases hc : lo ≤ zs[k] ∧ zs[k] ≤ hi
    · exact hc
    · rw [allB_false hk hc] at h; cases h
  · intro h
    unfold allB
    rw [List.all_eq_true]
    intro x hx
    obtain ⟨k, hk, rfl⟩ := List.getElem_of_mem hx
    simpa using h k hk

/-- equal lists -/
def eqL (xs ys : List Int) : Bool := decide (xs = ys)
theorem eqL_len {xs ys : List Int} (h : xs.length ≠ ys.length) : eqL xs ys = false := by
  simp only [eqL, decide_eq_false_iff_not]; intro e; exact h (by rw [e])
theorem eqL_at {xs ys : List Int} {k : Nat} (h1 : k < xs.length) (h2 : k < ys.length) (h : xs[k] ≠ ys[k]) : eqL xs ys = false := by
  simp only [eqL, decide_eq_false_iff_not]; intro e; subst e; exact h rfl
theorem eqL_take {xs ys : List Int} (hl : xs.length = ys.length) (h : ∀ j (h1 : j < xs.length) (h2 : j < ys.length), xs[j] = ys[j]) : eqL xs ys = true := by
  simp only [eqL, decide_eq_true_eq]; exact List.ext_getElem hl h
theorem eqL_self (xs : List Int) : eqL xs xs = true := by simp [eqL]
theorem eqL_true {xs ys : List Int} (h : eqL xs ys = true) : xs = ys := by simpa [eqL] using h

/-- k, k+1, .. in the first j places -/
def fillTo (zs : List Int) (k : Int) (j : Nat) : List Int := (List.range j).map (fun i : Nat => k + (i : Int)) ++ zs.drop j
theorem fillTo_zero (zs : List Int) (k : Int) : fillTo zs k 0 = zs := by simp [fillTo]
theorem fillTo_length (zs : List Int) (k : Int) (j : Nat) (h : j ≤ zs.length) : (fillTo zs k j).length = zs.length := by simp [fillTo]; omega
theorem fillTo_succ (zs : List Int) (k : Int) (j : Nat) (h : j < zs.length) : (fillTo zs k j).set j (k + (j : Int)) = fillTo zs k (j + 1) := by
  unfold fillTo
  rw [List.set_append_right _ _ (by simp), List.range_succ, List.map_append, List.append_assoc]
  simp only [List.length_map, List.length_range, Nat.sub_self, List.map_cons, List.map_nil]
  rw [List.drop_eq_getElem_cons h]
  rfl
def fill (k : Int) (n : Nat) : List Int := (List.range n).map (fun i : Nat => k + (i : Int))
theorem fillTo_all (zs : List Int) (k : Int) : fillTo zs k zs.length = fill k zs.length := by simp [fillTo, fill]
theorem fill_length (k : Int) (n : Nat) : (fill k n).length = n := by simp [fill]
theorem fill_at (k : Int) (n j : Nat) (h : j < (fill k n).length) : (fill k n)[j] = k + (j : Int) := by simp [fill]

/-- the first k of zs, and zeros behind -/
def tk (zs : List Int) (k : Nat) : List Int := zs.take k ++ List.replicate (zs.length - k) 0
theorem tk_zero (zs : List Int) : tk zs 0 = List.replicate zs.length 0 := by simp [tk]
theorem tk_all (zs : List Int) : tk zs zs.length = zs := by simp [tk]
theorem tk_length (zs : List Int) (k : Nat) (h : k ≤ zs.length) : (tk zs k).length = zs.length := by simp [tk]; omega
theorem tk_succ (zs : List Int) (k : Nat) (h : k < zs.length) : (tk zs k).set k zs[k] = tk zs (k + 1) := by
  unfold tk
  have hl : (zs.take k).length = k := by simp; omega
  rw [List.set_append_right _ _ (by omega), hl, Nat.sub_self]
  obtain ⟨m, hm⟩ : ∃ m, zs.length - k = m + 1 := ⟨zs.length - k - 1, by omega⟩
  rw [hm, List.replicate_succ, List.set_cons_zero, List.take_succ_eq_append_getElem h, List.append_assoc, show zs.length - (k + 1) = m from by omega]
  rfl

/-- strictly increasing -/
def risB (zs : List Int) : Bool := (List.range (zs.length - 1)).all fun k => decide (zs[k]?.getD 0 < zs[k + 1]?.getD 0)
theorem risB_iff {zs : List Int} : risB zs = true ↔ ∀ k (h : k + 1 < zs.length), zs[k] < zs[k + 1] := by
  unfold risB
  rw [List.all_eq_true]
  constructor
  · intro h k hk
    have := h k (by simp; omega)
    simpa [hk, show k < zs.length by omega] using this
  · intro h k hk
    simp at hk
    have := h k (by omega)
    simpa [show k + 1 < zs.length by omega, show k < zs.length by omega] using this
theorem risB_false {zs : List Int} {k : Nat} (h : k + 1 < zs.length) (h1 : ¬ zs[k] < zs[k + 1]) : risB zs = false := by
  cases hr : risB zs with
  | false => rfl
  | true => exact absurd (risB_iff.1 hr k h) h1
theorem risB_true {zs : List Int} (hh : ∀ k (h : k + 1 < zs.length), zs[k] < zs[k + 1]) : risB zs = true := risB_iff.2 hh

def risinB (zs : List Int) (lo hi : Int) : Bool := allB zs lo hi && risB zs
theorem risinB_false {zs : List Int} {lo hi : Int} {k : Nat} (h : k < zs.length) (h1 : ¬ (lo ≤ zs[k] ∧ zs[k] ≤ hi)) : risinB zs lo hi = false := by simp [risinB, allB_false h h1]
theorem risinB_false' {zs : List Int} {lo hi : Int} {k : Nat} (h : k + 1 < zs.length) (h1 : ¬ zs[k] < zs[k + 1]) : risinB zs lo hi = false := by simp [risinB, risB_false h h1]
theorem risinB_true {zs : List Int} {lo hi : Int} (h1 : ∀ k (_ : k < zs.length), lo ≤ zs[k] ∧ zs[k] ≤ hi) (h2 : ∀ k (h : k + 1 < zs.length), zs[k] < zs[k + 1]) : risinB zs lo hi = true := by
  simp [risinB, allB_iff.2 h1, risB_true h2]

/-- a valid key book -/
def kbB (key pages : Int) (zs : List Int) : Bool := inB key 0 1000000000 && (inB pages 1 60 && risinB zs 0 (pages - 1))

/-- a number is in a list -/
def hasB (zs : List Int) (n : Int) : Bool := decide (n ∈ zs)
theorem hasB_at {zs : List Int} {n : Int} {k : Nat} (h : k < zs.length) (h1 : zs[k] = n) : hasB zs n = true := by
  simp only [hasB, decide_eq_true_eq]; rw [← h1]; exact List.getElem_mem h
theorem hasB_no {zs : List Int} {n : Int} (h : ∀ k (_ : k < zs.length), zs[k] ≠ n) : hasB zs n = false := by
  simp only [hasB, decide_eq_false_iff_not]
  intro hm
  obtain ⟨k, hk, e⟩ := List.getElem_of_mem hm
  exact h k hk e
/-- the first place of a number, or -1 -/
def idxI (zs : List Int) (n : Int) : Int := match zs.findIdx? (· == n) with | some k => (k : Int) | none => -1
theorem idxI_at {zs : List Int} {n : Int} {k : Nat} (h : k < zs.length) (h1 : zs[k] = n) (h2 : ∀ j (h3 : j < zs.length), j < k → zs[j] ≠ n) : idxI zs n = (k : Int) := by
  have : zs.findIdx? (· == n) = some k := by
    rw [List.findIdx?_eq_some_iff_getElem]
    exact ⟨h, by simp [h1], fun j hj => by simpa using h2 j (by omega) hj⟩
  simp [idxI, this]
theorem idxI_no {zs : List Int} {n : Int} (h : ∀ k (_ : k < zs.length), zs[k] ≠ n) : idxI zs n = -1 := by
  have : zs.findIdx? (· == n) = none := by
    rw [List.findIdx?_eq_none_iff]
    intro x hx
    obtain ⟨k, hk, e⟩ := List.getElem_of_mem hx
    have := h k hk
    simp [← e, this]
  simp [idxI, this]
theorem idxI_has (zs : List Int) (n : Int) : hasB zs n = decide (0 ≤ idxI zs n) := by
  by_cases hm : n ∈ zs
  · obtain ⟨k, hk, e⟩ := List.getElem_of_mem hm
    rw [hasB_at hk e]
    cases hf : zs.findIdx? (· == n) with
    | some k => simp [idxI, hf]
    | none =>
      rw [List.findIdx?_eq_none_iff] at hf
      have := hf n hm
      simp at this
  · have h : ∀ k (_ : k < zs.length), zs[k] ≠ n := fun k hk e => hm (e ▸ List.getElem_mem hk)
    rw [hasB_no h, idxI_no h]
    simp
theorem idxI_range (zs : List Int) (n : Int) : -1 ≤ idxI zs n ∧ idxI zs n < zs.length + 1 := by
  unfold idxI
  split
  · rename_i k hf
    rw [List.findIdx?_eq_some_iff_getElem] at hf
    obtain ⟨h, _⟩ := hf
    omega
  · omega

/-- the mix of numbers -/
def mixStep (a x : Int) : Int := ((19 * a + x + 23) % 1000003) * (((19 * a + x + 23) % 1000003) / 16 + 11) % 1000003
def mixTo (a : Int) (l : List Int) : Int := l.foldl mixStep a
def mixL (keys : List Int) : Int := mixTo (6907 + keys.length) (keys ++ [3, 7])
theorem mixStep_bd (a x : Int) : 0 ≤ mixStep a x ∧ mixStep a x < 1000003 := by
  unfold mixStep
  exact ⟨Int.emod_nonneg _ (by omega), Int.emod_lt_of_pos _ (by omega)⟩
theorem mixTo_snoc (a : Int) (l : List Int) (k : Nat) (h : k < l.length) : mixTo a (l.take (k + 1)) = mixStep (mixTo a (l.take k)) l[k] := by
  unfold mixTo
  rw [List.take_succ_eq_append_getElem h, List.foldl_append]
  rfl
theorem mixTo_bd (a : Int) (l : List Int) (B : Int) (h0 : 0 ≤ a) (h1 : a ≤ B) (h2 : 1000003 ≤ B) : 0 ≤ mixTo a l ∧ mixTo a l ≤ B := by
  unfold mixTo
  induction l generalizing a with
  | nil => exact ⟨h0, h1⟩
  | cons x l ih =>
    have := mixStep_bd a x
    exact ih (mixStep a x) (by omega) (by omega)
theorem mixL_bd (keys : List Int) : 0 ≤ mixL keys ∧ mixL keys < 1000003 := by
  unfold mixL mixTo
  rw [List.foldl_append]
  exact mixStep_bd _ _
/-- what a mix runs over -/
def mixKeys (zs : List Int) : List Int := zs ++ [3, 7]
theorem mixKeys_len (zs : List Int) : (mixKeys zs).length = zs.length + 2 := by simp [mixKeys]
theorem mixKeys_bd {zs : List Int} (ha : allB zs 0 1000000000 = true) : ∀ (k : Nat) (h : k < (mixKeys zs).length), 0 ≤ (mixKeys zs)[k] ∧ (mixKeys zs)[k] ≤ 1000000000 := by
  have : allB (mixKeys zs) 0 1000000000 = true := by unfold allB mixKeys at *; rw [List.all_append, ha]; rfl
  exact allB_iff.1 this
theorem mixStep_eq (a x b : Int) (hb : b = (19 * a + x + 23) % 1000003) : mixStep a x = b * (b / 16 + 11) % 1000003 := by subst hb; rfl

end Go.Proofs.YtjhbffndiaggmaaGreatDoor

/-
  Plain functions for sorted lists and for the pages that are used, and their laws. No program here.
-/
namespace Go.Proofs.YtjhbffndiaggmaaGreatDoor
set_option linter.unusedVariables false
set_option linter.unusedSimpArgs false

theorem pw_of_ris {zs : List Int} (h : risB zs = true) : zs.Pairwise (· < ·) := by
  rw [List.pairwise_iff_getElem]
  have hs := risB_iff.1 h
  have key : ∀ d i (hi : i + d + 1 < zs.length), zs[i] < zs[i + d + 1] := by
    intro d
    induction d with
    | zero => intro i hi; exact hs i hi
    | succ d ih =>
      intro i hi
      have h1 := ih i (by omega)
      have h2 := hs (i + d + 1) (by omega)
      exact Int.lt_trans h1 h2
  intro i j hi hj hij
  have := key (j - i - 1) i (by omega)
  simpa [show i + (j - i - 1) + 1 = j by omega] using this
theorem ris_of_pw {zs : List Int} (h : zs.Pairwise (· < ·)) : risB zs = true := risB_iff.2 fun k hk => List.pairwise_iff_getElem.1 h k (k + 1) (by omega) hk (by omega)
theorem sorted_ext : ∀ {l1 l2 : List Int}, l1.Pairwise (· < ·) → l2.Pairwise (· < ·) → (∀ x, x ∈ l1 ↔ x ∈ l2) → l1 = l2
  | [], [], _, _, _ => rfl
  | [], b :: l2, _, _, h => absurd ((h b).2 (by simp)) (by simp)
  | a :: l1, [], _, _, h => absurd ((h a).1 (by simp)) (by simp)
  | a :: l1, b :: l2, h1, h2, h => by
    rw [List.pairwise_cons] at h1 h2
    have e : a = b := by
      have ha := (h a).1 (by simp)
      have hb := (h b).2 (by simp)
      rcases List.mem_cons.1 ha with e | ha'
      · exact e
      · rcases List.mem_cons.1 hb with e | hb'
        · exact e.symm
        · have q1 := h2.1 a ha'
          have q2 := h1.1 b hb'
          omega
    subst e
    rw [sorted_ext h1.2 h2.2 fun x => ?_]
    constructor
    · intro hx
      rcases List.mem_cons.1 ((h x).1 (by simp [hx])) with e | h'
      · subst e; exact absurd (h1.1 x hx) (by omega)
      · exact h'
    · intro hx
      rcases List.mem_cons.1 ((h x).2 (by simp [hx])) with e | h'
      · subst e; exact absurd (h2.1 x hx) (by omega)
      · exact h'
/-- sorted -/
def srtL (l : List Int) : List Int := l.mergeSort fun x y => decide (x ≤ y)
theorem srt_len (l : List Int) : (srtL l).length = l.length := List.length_mergeSort l
theorem srt_mem {l : List Int} {x : Int} : x ∈ srtL l ↔ x ∈ l := List.mem_mergeSort
theorem srt_le (l : List Int) : (srtL l).Pairwise (· ≤ ·) :=
  (List.pairwise_mergeSort (le := fun x y : Int => decide (x ≤ y)) (fun a b c h1 h2 => by simp at *; omega) (fun a b => by simp; omega) l).imp fun h => by simpa using h
theorem srt_lt {l : List Int} (h : l.Nodup) : (srtL l).Pairwise (· < ·) := by
  have hn : (srtL l).Nodup := (List.mergeSort_perm l _).nodup_iff.2 h
  exact ((srt_le l).and hn).imp fun ⟨h1, h2⟩ => by omega
theorem sort_eq {l s : List Int} (hs : s.Pairwise (· < ·)) (hn : l.Nodup) (hm : ∀ x, x ∈ l ↔ x ∈ s) : srtL l = s := sorted_ext (srt_lt hn) hs fun x => srt_mem.trans (hm x)
theorem nodup_of_lt {l : List Int} (h : l.Pairwise (· < ·)) : l.Nodup := h.imp fun h => by omega
theorem srt_ris (l : List Int) : risB (srtL l) = decide l.Nodup := by
  by_cases h : l.Nodup
  · rw [ris_of_pw (srt_lt h)]; simp [h]
  · cases hr : risB (srtL l) with
    | false => simp [h]
    | true => exact absurd ((List.mergeSort_perm l _).nodup_iff.1 (nodup_of_lt (pw_of_ris hr))) h

/-- a number put into its place -/
def putL : List Int → Int → List Int
  | [], n => [n]
  | z :: zs, n => if z < n then z :: putL zs n else if z = n then z :: zs else n :: z :: zs
theorem putL_at {zs : List Int} {n : Int} {k : Nat} (hk : k ≤ zs.length) (h1 : ∀ j (h : j < zs.length), j < k → zs[j] < n) (h2 : ∀ (h : k < zs.length), ¬ zs[k] < n) :
    putL zs n = if zs[k]? = some n then zs else zs.take k ++ n :: zs.drop k := by
  induction zs generalizing k with
  | nil => obtain rfl : k = 0 := by simpa using hk
           simp [putL]
  | cons z zs ih =>
    cases k with
    | zero =>
      have h := h2 (by simp)
      have h' : ¬ z < n := by simpa using h
      by_cases e : z = n <;> simp [putL, h', e]
    | succ k =>
      have hz : z < n := by have := h1 0 (by simp) (by omega); simpa using this
      have := ih (k := k) (by simpa using hk) (fun j h hj => by have := h1 (j + 1) (by simp; omega) (by omega); simpa using this) (fun h => by have := h2 (by simp; omega); simpa using this)
      simp only [putL, if_pos hz, this, List.getElem?_cons_succ, List.take_succ_cons, List.drop_succ_cons]
      split <;> simp
theorem putL_mem {zs : List Int} {n x : Int} : x ∈ putL zs n ↔ x ∈ zs ∨ x = n := by
  induction zs with
  | nil => simp [putL]
  | cons z zs ih =>
    unfold putL
    split
    · simp [ih, or_assoc]
    · split
      · rename_i h1 h2
        subst h2
        constructor
        · intro h; exact .inl h
        · rintro (h | rfl)
          · exact h
          · simp
      · simp only [List.mem_cons]
        constructor
        · rintro (h | h | h)
          · exact .inr h
          · exact .inl (.inl h)
          · exact .inl (.inr h)
        · rintro ((h | h) | h)
          · exact .inr (.inl h)
          · exact .inr (.inr h)
          · exact .inl h
theorem putL_pw {zs : List Int} {n : Int} (h : zs.Pairwise (· < ·)) : (putL zs n).Pairwise (· < ·) := by
  induction zs with
  | nil => simp [putL]
  | cons z zs ih =>
    rw [List.pairwise_cons] at h
    unfold putL
    split
    · rename_i hz
      rw [List.pairwise_cons]
      refine ⟨fun x hx => ?_, ih h.2⟩
      rcases putL_mem.1 hx with hx | rfl
      · exact h.1 x hx
      · exact hz
    · split
      · rw [List.pairwise_cons]; exact h
      · rename_i h1 h2
        rw [List.pairwise_cons, List.pairwise_cons]
        refine ⟨fun x hx => ?_, h⟩
        rcases List.mem_cons.1 hx with rfl | hx
        · omega
        · have := h.1 x hx; omega
theorem putL_len (zs : List Int) (n : Int) : (putL zs n).length ≤ zs.length + 1 := by
  induction zs with
  | nil => simp [putL]
  | cons z zs ih =>
    unfold putL
    split
    · simp; omega
    · split <;> simp
theorem sort_put {zs : List Int} {n : Int} (h : zs.Pairwise (· < ·)) (hn : n ∉ zs) : srtL (zs ++ [n]) = putL zs n :=
  sort_eq (putL_pw h) (by
    rw [List.nodup_append]
    refine ⟨nodup_of_lt h, by simp, fun a ha b hb e => ?_⟩
    simp at hb; subst hb; subst e; exact hn ha) fun x => by rw [putL_mem]; simp

/-- how many of the numbers at the front are 0, 1, 2, .. -/
def pfxFrom : List Int → Nat → Nat
  | [], _ => 0
  | z :: zs, i => if z = (i : Int) then 1 + pfxFrom zs (i + 1) else 0
def pfx (zs : List Int) : Nat := pfxFrom zs 0
theorem pfxFrom_at {zs : List Int} {i k : Nat} (hk : k ≤ zs.length) (h1 : ∀ j (h : j < zs.length), j < k → zs[j] = ((i + j : Nat) : Int)) (h2 : ∀ (h : k < zs.length), zs[k] ≠ ((i + k : Nat) : Int)) : pfxFrom zs i = k := by
  induction zs generalizing i k with
  | nil => obtain rfl : k = 0 := by simpa using hk
           rfl
  | cons z zs ih =>
    cases k with
    | zero =>
      have h := h2 (by simp)
      have h' : z ≠ (i : Int) := by simpa using h
      simp [pfxFrom, h']
    | succ k =>
      have hz : z = (i : Int) := by have := h1 0 (by simp) (by omega); simpa using this
      have := ih (i := i + 1) (k := k) (by simpa using hk) (fun j h hj => by have := h1 (j + 1) (by simp; omega) (by omega); simp at this; rw [this]; omega) (fun h => by have := h2 (by simp; omega); simp at this; intro e; exact this (by rw [e]; omega))
      simp only [pfxFrom, if_pos hz, this]
      omega
theorem pfx_at {zs : List Int} {k : Nat} (hk : k ≤ zs.length) (h1 : ∀ j (h : j < zs.length), j < k → zs[j] = (j : Int)) (h2 : ∀ (h : k < zs.length), zs[k] ≠ (k : Int)) : pfx zs = k :=
  pfxFrom_at hk (fun j h hj => by rw [h1 j h hj]; simp) (fun h => by have := h2 h; simpa using this)

/-- the numbers of a valid key book -/
theorem kb_facts {key pages : Int} {zs : List Int} (h : kbB key pages zs = true) : (0 ≤ key ∧ key ≤ 1000000000) ∧ (1 ≤ pages ∧ pages ≤ 60) ∧ zs.Pairwise (· < ·) ∧ (∀ k (_ : k < zs.length), 0 ≤ zs[k] ∧ zs[k] ≤ pages - 1) := by
  simp only [kbB, risinB, Bool.and_eq_true, inB_iff] at h
  exact ⟨h.1, h.2.1, pw_of_ris h.2.2.2, allB_iff.1 h.2.2.1⟩
theorem rise_ge {zs : List Int} (h : zs.Pairwise (· < ·)) (h0 : ∀ k (_ : k < zs.length), 0 ≤ zs[k]) : ∀ k (_ : k < zs.length), (k : Int) ≤ zs[k] := by
  intro k
  induction k with
  | zero => intro hk; exact h0 0 hk
  | succ k ih =>
    intro hk
    have h1 := ih (by omega)
    have h2 := List.pairwise_iff_getElem.1 h k (k + 1) (by omega) hk (by omega)
    omega
theorem rise_le {zs : List Int} {p : Int} (h : zs.Pairwise (· < ·)) (h0 : ∀ k (_ : k < zs.length), zs[k] ≤ p - 1) : ∀ d k (_ : k + d + 1 = zs.length), zs[k] ≤ p - 1 - d := by
  intro d
  induction d with
  | zero => intro k hk; have := h0 k (by omega); omega
  | succ d ih =>
    intro k hk
    have h1 := ih (k + 1) (by omega)
    have h2 := List.pairwise_iff_getElem.1 h k (k + 1) (by omega) (by omega) (by omega)
    omega
theorem kb_len {key pages : Int} {zs : List Int} (h : kbB key pages zs = true) : (zs.length : Int) ≤ pages := by
  obtain ⟨_, hp, hpw, hb⟩ := kb_facts h
  by_cases h0 : zs.length = 0
  · omega
  · have h1 := rise_le (p := pages) hpw (fun k hk => (hb k hk).2) (zs.length - 1) 0 (by omega)
    have h2 := (hb 0 (by omega)).1
    omega
/-- where all pages are used, they are 0, 1, 2, .. -/
theorem kb_full {key pages : Int} {zs : List Int} (h : kbB key pages zs = true) (hl : (zs.length : Int) = pages) : ∀ k (_ : k < zs.length), zs[k] = (k : Int) := by
  obtain ⟨_, hp, hpw, hb⟩ := kb_facts h
  intro k hk
  have h1 := rise_ge hpw (fun k hk => (hb k hk).1) k hk
  have h2 := rise_le (p := pages) hpw (fun k hk => (hb k hk).2) (zs.length - 1 - k) k (by omega)
  omega
/-- the first number that is missing is in no later place -/
theorem pfx_free {zs : List Int} {k : Nat} (hpw : zs.Pairwise (· < ·)) (h0 : ∀ k (_ : k < zs.length), 0 ≤ zs[k]) (hk : k ≤ zs.length) (h1 : ∀ j (h : j < zs.length), j < k → zs[j] = (j : Int)) (h2 : ∀ (h : k < zs.length), zs[k] ≠ (k : Int)) : (k : Int) ∉ zs := by
  intro hm
  obtain ⟨j, hj, e⟩ := List.getElem_of_mem hm
  have hge := rise_ge hpw h0 j hj
  by_cases hjk : j < k
  · have := h1 j hj hjk; omega
  · by_cases e2 : j = k
    · subst e2; exact h2 hj e
    · have h3 := List.pairwise_iff_getElem.1 hpw k j (by omega) hj (by omega)
      have h4 := rise_ge hpw h0 k (by omega)
      have h5 := h2 (by omega)
      omega

def unB (key pages : Int) (zs : List Int) : Bool := kbB key pages zs && decide ((zs.length : Int) ≠ pages)
def unK (key pages : Int) (zs : List Int) : Int := if unB key pages zs then key else 0
def unP (key pages : Int) (zs : List Int) : Int := if unB key pages zs then pages else 0
def unL (key pages : Int) (zs : List Int) : List Int := if unB key pages zs then putL zs (pfx zs) else []
def unV (key pages : Int) (zs : List Int) : Int := if unB key pages zs then (pfx zs : Int) else 0
theorem un_no {key pages : Int} {zs : List Int} (h : unB key pages zs = false) : unK key pages zs = 0 ∧ unP key pages zs = 0 ∧ unL key pages zs = [] ∧ unV key pages zs = 0 := by simp [unK, unP, unL, unV, h]
theorem un_yes {key pages : Int} {zs : List Int} (h : unB key pages zs = true) : unK key pages zs = key ∧ unP key pages zs = pages ∧ unL key pages zs = putL zs (pfx zs) ∧ unV key pages zs = (pfx zs : Int) := by simp [unK, unP, unL, unV, h]
def upB (key pages : Int) (zs : List Int) (page : Int) : Bool := (kbB key pages zs && inB page 0 (pages - 1)) && !hasB zs page
def upK (key pages : Int) (zs : List Int) (page : Int) : Int := if upB key pages zs page then key else 0
def upP (key pages : Int) (zs : List Int) (page : Int) : Int := if upB key pages zs page then pages else 0
def upL (key pages : Int) (zs : List Int) (page : Int) : List Int := if upB key pages zs page then putL zs page else []
theorem up_no {key pages : Int} {zs : List Int} {page : Int} (h : upB key pages zs page = false) : upK key pages zs page = 0 ∧ upP key pages zs page = 0 ∧ upL key pages zs page = [] := by simp [upK, upP, upL, h]
theorem up_yes {key pages : Int} {zs : List Int} {page : Int} (h : upB key pages zs page = true) : upK key pages zs page = key ∧ upP key pages zs page = pages ∧ upL key pages zs page = putL zs page := by simp [upK, upP, upL, h]
end Go.Proofs.YtjhbffndiaggmaaGreatDoor
