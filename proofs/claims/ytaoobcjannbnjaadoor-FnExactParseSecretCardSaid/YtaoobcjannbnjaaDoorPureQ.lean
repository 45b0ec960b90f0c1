/-
  The library's splitting at one byte is the plain one. No function of the program stands here.
-/
import Derived.Test.YtaoobcjannbnjaaDoorPureR
import Derived.Lib.Split
namespace Go.Proofs.YtaoobcjannbnjaaDoor
set_option linter.unusedVariables false
set_option linter.unusedSimpArgs false

theorem index_free {b : UInt8} : ∀ {l : List UInt8}, b ∉ l → Lib.index l [b] = -1
  | [], _ => rfl
  | x :: l, h => by
    have h1 : ¬ b = x := fun e => h (by rw [e]; exact List.mem_cons_self)
    have h2 := index_free (b := b) (l := l) (fun e => h (List.mem_cons_of_mem _ e))
    unfold Lib.index
    rw [if_neg (by simp [List.isPrefixOf, h1]), h2]
    rfl
theorem index_sep {b : UInt8} : ∀ {p : List UInt8} (r : List UInt8), b ∉ p → Lib.index (p ++ b :: r) [b] = (p.length : Int)
  | [], r, _ => by
    show Lib.index (b :: r) [b] = _
    unfold Lib.index
    rw [if_pos (by simp [List.isPrefixOf])]; rfl
  | x :: p, r, h => by
    have h1 : ¬ b = x := fun e => h (by rw [e]; exact List.mem_cons_self)
    have h2 := index_sep (b := b) (p := p) r (fun e => h (List.mem_cons_of_mem _ e))
    show Lib.index (x :: (p ++ b :: r)) [b] = _
    unfold Lib.index
    rw [if_neg (by simp [List.isPrefixOf, h1]), h2, if_neg (by simp)]
    simp
theorem splitK_one {b : UInt8} : ∀ (N : Nat) (l : List UInt8), l.count b ≤ N → Lib.splitK [b] 0 N l = splitL b l
  | 0, l, h => by
    have hn : b ∉ l := fun hm => by have := List.count_pos_iff.2 hm; omega
    rw [splitL_free hn]; rfl
  | N + 1, l, h => by
    by_cases hm : b ∈ l
    · obtain ⟨p, r, rfl, hp⟩ := List.eq_append_cons_of_mem hm
      have hi := index_sep r hp
      have hc : r.count b ≤ N := by
        rw [List.count_append, List.count_cons_self] at h; omega
      unfold Lib.splitK
      rw [hi, if_neg (by simp), splitL_sep r hp]
      have e1 : (p ++ b :: r).take ((p.length : Int).toNat + 0) = p := by simp
      have e2 : (p ++ b :: r).drop ((p.length : Int).toNat + [b].length) = r := by simp
      rw [e1, e2, splitK_one N r hc]
    · unfold Lib.splitK
      rw [index_free hm, if_pos (by rfl), splitL_free hm]
theorem count_one {b : UInt8} : ∀ (N : Nat) (l : List UInt8), l.length ≤ N → Lib.count l [b] = l.count b
  | 0, l, h => by
    have hl : l = [] := List.eq_nil_of_length_eq_zero (by omega)
    subst hl
    exact Lib.count_miss rfl
  | N + 1, l, h => by
    by_cases hm : b ∈ l
    · obtain ⟨p, r, rfl, hp⟩ := List.eq_append_cons_of_mem hm
      have e2 : (p ++ b :: r).drop (p.length + [b].length) = r := by simp
      have hp0 : p.count b = 0 := List.count_eq_zero.2 hp
      have hr : r.length ≤ N := by rw [List.length_append, List.length_cons] at h; omega
      rw [Lib.count_hit (by simp) (index_sep r hp), e2, count_one N r hr, List.count_append, List.count_cons_self, hp0]
      omega
    · rw [Lib.count_miss (index_free hm), List.count_eq_zero.2 hm]
theorem splitL_length (b : UInt8) (l : List UInt8) : (splitL b l).length = l.count b + 1 := by
  induction l with
  | nil => rfl
  | cons x r ih =>
    unfold splitL
    split
    · rename_i e
      subst e
      rw [List.length_cons, ih, List.count_cons_self]
    · rename_i e
      rw [List.count_cons_of_ne (by exact e)]
      cases hs : splitL b r with
      | nil => exact absurd hs (splitL_ne b r)
      | cons h t => rw [hs] at ih; simpa using ih
/-- strings.Split's pieces at one byte -/
theorem split_pieces (b : UInt8) (l : List UInt8) : Lib.countB (str l) (str [b]) = l.count b ∧ Lib.splitB (str [b]) 0 (Lib.countB (str l) (str [b])) (str l) = (splitL b l).map str := by
  have h1 : Lib.countB (str l) (str [b]) = l.count b := by
    show Lib.count (str l).data.toList (str [b]).data.toList = _
    rw [str_toList, str_toList]
    exact count_one l.length l (Nat.le_refl _)
  refine ⟨h1, ?_⟩
  rw [h1]
  have h2 := Lib.splitB_data (str [b]) 0 (l.count b) (str l)
  rw [str_toList, str_toList, splitK_one _ _ (Nat.le_refl _)] at h2
  rw [← h2, List.map_map]
  conv => lhs; rw [← List.map_id (Lib.splitB (str [b]) 0 (l.count b) (str l))]
  exact List.map_congr_left fun s _ => (str_of s).symm
end Go.Proofs.YtaoobcjannbnjaaDoor
