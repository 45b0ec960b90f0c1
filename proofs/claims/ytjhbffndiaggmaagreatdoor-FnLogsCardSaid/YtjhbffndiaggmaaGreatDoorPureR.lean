/-
  Reading texts: a text split at a byte, numbers in decimal read back. No function of the program stands here.
-/
import Derived.Test.YtjhbffndiaggmaaGreatDoorPureT
import Derived.Lib.Split
namespace Go.Proofs.YtjhbffndiaggmaaGreatDoor
set_option linter.unusedVariables false
set_option linter.unusedSimpArgs false

/-! ### a text split at a byte -/
def splitL (b : UInt8) : List UInt8 → List (List UInt8)
  | [] => [[]]
  | x :: r => if x = b then [] :: splitL b r else
    match splitL b r with
    | [] => [[x]]
    | h :: t => (x :: h) :: t
theorem splitL_ne (b : UInt8) (l : List UInt8) : splitL b l ≠ [] := by
  cases l with
  | nil => simp [splitL]
  | cons x r =>
    unfold splitL
    split
    · simp
    · split <;> simp
theorem splitL_free {b : UInt8} : ∀ {l : List UInt8}, b ∉ l → splitL b l = [l]
  | [], _ => rfl
  | x :: r, h => by
    have h1 : ¬ x = b := fun e => h (by rw [e]; exact List.mem_cons_self)
    have h2 := splitL_free (b := b) (l := r) (fun e => h (List.mem_cons_of_mem _ e))
    unfold splitL
    rw [if_neg h1, h2]
theorem splitL_sep {b : UInt8} : ∀ {l : List UInt8} (r : List UInt8), b ∉ l → splitL b (l ++ b :: r) = l :: splitL b r
  | [], r, _ => by
    show splitL b (b :: r) = _
    rw [splitL, if_pos rfl]
  | x :: l, r, h => by
    have h1 : ¬ x = b := fun e => h (by rw [e]; exact List.mem_cons_self)
    have h2 := splitL_sep (b := b) (l := l) r (fun e => h (List.mem_cons_of_mem _ e))
    show splitL b (x :: (l ++ b :: r)) = _
    rw [splitL, if_neg h1, h2]
theorem splitL_snoc_sep {b : UInt8} : ∀ (l : List UInt8), splitL b (l ++ [b]) = splitL b l ++ [[]]
  | [] => by show splitL b [b] = _; simp [splitL]
  | x :: l => by
    have h2 := splitL_snoc_sep (b := b) l
    show splitL b (x :: (l ++ [b])) = splitL b (x :: l) ++ [[]]
    rw [splitL, splitL]
    split
    · rw [h2]; rfl
    · rw [h2]
      cases hs : splitL b l with
      | nil => exact absurd hs (splitL_ne b l)
      | cons h t => rfl
theorem splitL_snoc_byte {b x : UInt8} (hx : ¬ x = b) : ∀ (l : List UInt8), splitL b (l ++ [x]) = (splitL b l).dropLast ++ [((splitL b l).getLast (splitL_ne b l)) ++ [x]]
  | [] => by show splitL b [x] = _; simp [splitL, hx]
  | y :: l => by
    have h2 := splitL_snoc_byte hx l
    show splitL b (y :: (l ++ [x])) = _
    by_cases hy : y = b
    · have e1 : splitL b (y :: (l ++ [x])) = [] :: splitL b (l ++ [x]) := by rw [splitL, if_pos hy]
      have e2 : splitL b (y :: l) = [] :: splitL b l := by rw [splitL, if_pos hy]
      rw [e1, h2]
      simp only [e2, List.dropLast_cons_of_ne_nil (splitL_ne b l), List.getLast_cons (splitL_ne b l), List.cons_append]
    · cases hs : splitL b l with
      | nil => exact absurd hs (splitL_ne b l)
      | cons h t =>
        have e2 : splitL b (y :: l) = (y :: h) :: t := by rw [splitL, if_neg hy, hs]
        have e3 : splitL b (l ++ [x]) = (h :: t).dropLast ++ [(h :: t).getLast (by simp) ++ [x]] := by
          rw [h2]; simp only [hs]
        have e1 : splitL b (y :: (l ++ [x])) = match splitL b (l ++ [x]) with | [] => [[y]] | h :: t => (y :: h) :: t := by rw [splitL, if_neg hy]
        rw [e1, e3]
        simp only [e2]
        cases t with
        | nil => rfl
        | cons t1 t2 => rfl
/-- a round of the reference's splitting: at the byte, and at another one -/
theorem splitL_step_sep {b : UInt8} {l : List UInt8} {k f : Nat} {ps : List (List UInt8)} (h : k < l.length) (hx : l[k] = b) (hs : splitL b (l.take k) = ps ++ [(l.take k).drop f]) :
    splitL b (l.take (k + 1)) = (ps ++ [(l.take k).drop f]) ++ [(l.take (k + 1)).drop (k + 1)] := by
  have e : (l.take (k + 1)).drop (k + 1) = [] := by rw [List.drop_eq_nil_iff]; rw [List.length_take]; omega
  rw [e, List.take_succ_eq_append_getElem h, hx, splitL_snoc_sep, hs]
theorem splitL_step_byte {b : UInt8} {l : List UInt8} {k f : Nat} {ps : List (List UInt8)} (h : k < l.length) (hx : ¬ l[k] = b) (hf : f ≤ k) (hs : splitL b (l.take k) = ps ++ [(l.take k).drop f]) :
    splitL b (l.take (k + 1)) = ps ++ [(l.take (k + 1)).drop f] := by
  have e : (l.take (k + 1)).drop f = (l.take k).drop f ++ [l[k]] := by
    rw [List.take_succ_eq_append_getElem h, List.drop_append_of_le_length (by rw [List.length_take]; omega)]
  rw [e, List.take_succ_eq_append_getElem h, splitL_snoc_byte hx]
  simp only [hs, List.dropLast_concat, List.getLast_concat]
/-- the pieces joined again are the text -/
theorem join_splitL (b : UInt8) : ∀ (l : List UInt8), Lib.join (splitL b l) [b] = l
  | [] => rfl
  | x :: l => by
    have h2 := join_splitL b l
    cases hs : splitL b l with
    | nil => exact absurd hs (splitL_ne b l)
    | cons h t =>
      rw [hs] at h2
      rw [splitL, hs]
      split
      · rename_i e
        subst e
        rw [Lib.join_cons]
        rw [Lib.join_cons] at h2
        simp [Lib.joinTail] at h2 ⊢
        exact h2
      · rw [Lib.join_cons] at h2 ⊢
        rw [List.cons_append, h2]

/-! ### the digits of a number -/
theorem numS_mem : ∀ (k : Nat) (n : Int), 0 ≤ n → n < 10 ^ (k + 1) → ∀ x ∈ numS n, 48 ≤ x.toNat ∧ x.toNat ≤ 57 := by
  intro k
  induction k with
  | zero =>
    intro n h0 h1 x hx
    have h3 : n < 10 := by simpa using h1
    rw [numS_lt h0 h3] at hx
    simp only [List.mem_singleton] at hx
    subst hx
    have : (48 + n.toNat) < 256 := by omega
    simp only [UInt8.toNat_ofNat']
    omega
  | succ k ih =>
    intro n h0 h1 x hx
    by_cases h3 : n < 10
    · rw [numS_lt h0 h3] at hx
      simp only [List.mem_singleton] at hx
      subst hx
      simp only [UInt8.toNat_ofNat']
      omega
    · rw [numS_ge (by omega)] at hx
      rcases List.mem_append.1 hx with hx | hx
      · refine ih (n / 10) (by omega) ?_ x hx
        have : (10 : Int) ^ (k + 1 + 1) = 10 ^ (k + 1) * 10 := by rw [Int.pow_succ]
        omega
      · simp only [List.mem_singleton] at hx
        subst hx
        simp only [UInt8.toNat_ofNat']
        omega
theorem numS_no {n : Int} (h0 : 0 ≤ n) (h1 : n ≤ 9223372036854775807) {b : UInt8} (hb : b.toNat < 48) : b ∉ numS n := fun hm => by
  have := numS_mem 18 n h0 (by omega) b hm
  omega
/-- numbers joined by a byte that is no digit, split at it -/
theorem splitL_joinS {b : UInt8} (hb : b.toNat < 48) : ∀ (l : List Int), l ≠ [] → (∀ n ∈ l, 0 ≤ n ∧ n ≤ 9223372036854775807) → splitL b (joinS l [b]) = l.map numS
  | [], h, _ => absurd rfl h
  | [n], _, h => by
    have := h n (by simp)
    rw [joinS_one, splitL_free (numS_no this.1 this.2 hb)]; rfl
  | n :: m :: r, _, h => by
    have hn := h n (by simp)
    have h2 := splitL_joinS hb (m :: r) (by simp) (fun x hx => h x (List.mem_cons_of_mem _ hx))
    have e : joinS (n :: m :: r) [b] = numS n ++ b :: joinS (m :: r) [b] := by
      unfold joinS
      rw [List.map_cons, List.map_cons, Lib.join_cons, Lib.join_cons]
      simp [Lib.joinTail]
    rw [e, splitL_sep _ (numS_no hn.1 hn.2 hb), h2]; rfl

/-! ### a number read -/
/-- the value of digits, one after another -/
def valTo (l : List UInt8) : Int := l.foldl (fun n x => 10 * n + ((x.toNat : Int) - 48)) 0
theorem valTo_snoc (l : List UInt8) (x : UInt8) : valTo (l ++ [x]) = 10 * valTo l + ((x.toNat : Int) - 48) := by simp [valTo]
theorem valTo_num : ∀ (k : Nat) (n : Int), 0 ≤ n → n < 10 ^ (k + 1) → valTo (numS n) = n := by
  intro k
  induction k with
  | zero =>
    intro n h0 h1
    have h3 : n < 10 := by simpa using h1
    rw [numS_lt h0 h3]
    simp only [valTo, List.foldl_cons, List.foldl_nil, UInt8.toNat_ofNat']
    omega
  | succ k ih =>
    intro n h0 h1
    by_cases h3 : n < 10
    · rw [numS_lt h0 h3]
      simp only [valTo, List.foldl_cons, List.foldl_nil, UInt8.toNat_ofNat']
      omega
    · have : (10 : Int) ^ (k + 1 + 1) = 10 ^ (k + 1) * 10 := by rw [Int.pow_succ]
      rw [numS_ge (by omega), valTo_snoc, ih (n / 10) (by omega) (by omega)]
      simp only [UInt8.toNat_ofNat']
      omega
end Go.Proofs.YtjhbffndiaggmaaGreatDoor

namespace Go.Proofs.YtjhbffndiaggmaaGreatDoor
set_option linter.unusedVariables false
set_option linter.unusedSimpArgs false

theorem index_free {b : UInt8} : ∀ {l : List UInt8}, b ∉ l → Lib.index l [b] = -1
  | [], _ => rfl
  | x :: l, h => by
    have h1 : ¬ b = x := fun e => h (by rw [e]; exact List.mem_cons_self)
    have h2 := index_free (b := b) (l := l) (fun e => h (List.mem_cons_of_mem _ e))
    unfold Lib.index
    rw [if_neg (by simp [List.isPrefixOf, h1]), h2]
    rfl
theorem index_sep {b : UInt8} : ∀ {p : List UInt8} (r : List UInt8), b ∉ p → Lib.index (p ++ b :: r) [b] = (p.length : Int)
  | [], r, _ => by
    show Lib.index (b :: r) [b] = _
    unfold Lib.index
    rw [if_pos (by simp [List.isPrefixOf])]; rfl
  | x :: p, r, h => by
    have h1 : ¬ b = x := fun e => h (by rw [e]; exact List.mem_cons_self)
    have h2 := index_sep (b := b) (p := p) r (fun e => h (List.mem_cons_of_mem _ e))
    show Lib.index (x :: (p ++ b :: r)) [b] = _
    unfold Lib.index
    rw [if_neg (by simp [List.isPrefixOf, h1]), h2, if_neg (by simp)]
    simp
theorem splitK_one {b : UInt8} : ∀ (N : Nat) (l : List UInt8), l.count b ≤ N → Lib.splitK [b] 0 N l = splitL b l
  | 0, l, h => by
    have hn : b ∉ l := fun hm => by have := List.count_pos_iff.2 hm; omega
    rw [splitL_free hn]; rfl
  | N + 1, l, h => by
    by_cases hm : b ∈ l
    · obtain ⟨p, r, rfl, hp⟩ := List.eq_append_cons_of_mem hm
      have hi := index_sep r hp
      have hc : r.count b ≤ N := by
        rw [List.count_append, List.count_cons_self] at h; omega
      unfold Lib.splitK
      rw [hi, if_neg (by simp), splitL_sep r hp]
      have e1 : (p ++ b :: r).take ((p.length : Int).toNat + 0) = p := by simp
      have e2 : (p ++ b :: r).drop ((p.length : Int).toNat + [b].length) = r := by simp
      rw [e1, e2, splitK_one N r hc]
    · unfold Lib.splitK
      rw [index_free hm, if_pos (by rfl), splitL_free hm]
theorem count_one {b : UInt8} : ∀ (N : Nat) (l : List UInt8), l.length ≤ N → Lib.count l [b] = l.count b
  | 0, l, h => by
    have hl : l = [] := List.eq_nil_of_length_eq_zero (by omega)
    subst hl
    exact Lib.count_miss rfl
  | N + 1, l, h => by
    by_cases hm : b ∈ l
    · obtain ⟨p, r, rfl, hp⟩ := List.eq_append_cons_of_mem hm
      have e2 : (p ++ b :: r).drop (p.length + [b].length) = r := by simp
      have hp0 : p.count b = 0 := List.count_eq_zero.2 hp
      have hr : r.length ≤ N := by rw [List.length_append, List.length_cons] at h; omega
      rw [Lib.count_hit (by simp) (index_sep r hp), e2, count_one N r hr, List.count_append, List.count_cons_self, hp0]
      omega
    · rw [Lib.count_miss (index_free hm), List.count_eq_zero.2 hm]
theorem splitL_length (b : UInt8) (l : List UInt8) : (splitL b l).length = l.count b + 1 := by
  induction l with
  | nil => rfl
  | cons x r ih =>
    unfold splitL
    split
    · rename_i e
      subst e
      rw [List.length_cons, ih, List.count_cons_self]
    · rename_i e
      rw [List.count_cons_of_ne (by exact e)]
      cases hs : splitL b r with
      | nil => exact absurd hs (splitL_ne b r)
      | cons h t => rw [hs] at ih; simpa using ih
/-- strings.Split's pieces at one byte -/
theorem split_pieces (b : UInt8) (l : List UInt8) : Lib.countB (str l) (str [b]) = l.count b ∧ Lib.splitB (str [b]) 0 (Lib.countB (str l) (str [b])) (str l) = (splitL b l).map str := by
  have h1 : Lib.countB (str l) (str [b]) = l.count b := by
    show Lib.count (str l).data.toList (str [b]).data.toList = _
    rw [str_toList, str_toList]
    exact count_one l.length l (Nat.le_refl _)
  refine ⟨h1, ?_⟩
  rw [h1]
  have h2 := Lib.splitB_data (str [b]) 0 (l.count b) (str l)
  rw [str_toList, str_toList, splitK_one _ _ (Nat.le_refl _)] at h2
  rw [← h2, List.map_map]
  conv => lhs; rw [← List.map_id (Lib.splitB (str [b]) 0 (l.count b) (str l))]
  exact List.map_congr_left fun s _ => (str_of s).symm
end Go.Proofs.YtjhbffndiaggmaaGreatDoor
