/-
  slices.Sort and slices.Compact on slices that a call has made, by the library's contracts; what a sorted list holds when each number is taken once. The conditions are bounds on lengths.
-/
import Derived.Test.YtjhbffndiaggmaaGreatDoorZLSort
import Derived.Test.YtjhbffndiaggmaaGreatDoorShelfC
import Derived.Shelf.Slices.CompactI
import Derived.Shelf.Slices.In.SortNone
import Derived.Lib.RowBridge
namespace Go.Proofs.YtjhbffndiaggmaaGreatDoor
open Go.RowKit Go.ChangeShapes Go.WideShapes
set_option linter.unusedVariables false
set_option linter.unusedSimpArgs false

/-- each number once, in order -/
def dedL (l : List Int) : List Int := l.foldl putL []
theorem dedL_snoc (l : List Int) (n : Int) : dedL (l ++ [n]) = putL (dedL l) n := by simp [dedL]
theorem foldl_put {l s : List Int} (hs : s.Pairwise (· < ·)) : (l.foldl putL s).Pairwise (· < ·) ∧ ∀ x, x ∈ l.foldl putL s ↔ x ∈ s ∨ x ∈ l := by
  induction l generalizing s with
  | nil => exact ⟨hs, by simp⟩
  | cons a l ih =>
    have := ih (putL_pw (n := a) hs)
    refine ⟨this.1, fun x => ?_⟩
    rw [List.foldl_cons, this.2 x, putL_mem]
    simp only [List.mem_cons]
    constructor
    · rintro ((h | h) | h)
      · exact .inl h
      · exact .inr (.inl h)
      · exact .inr (.inr h)
    · rintro (h | h | h)
      · exact .inl (.inl h)
      · exact .inl (.inr h)
      · exact .inr h
theorem dedL_len (l : List Int) : (dedL l).length ≤ l.length := by
  have key : ∀ (s : List Int), (l.foldl putL s).length ≤ s.length + l.length := by
    induction l with
    | nil => intro s; simp
    | cons a l ih => intro s; have := ih (putL s a); have := putL_len s a; simp only [List.foldl_cons, List.length_cons]; omega
  simpa [dedL] using key []
theorem compact_go {s : List Int} (hs : s.Pairwise (· ≤ ·)) (m : Nat) (hm : m ≤ s.length) : (Lib.compactUpTo s.toArray m).Pairwise (· < ·) ∧ ∀ x, x ∈ Lib.compactUpTo s.toArray m ↔ x ∈ s.take m := by
  induction m with
  | zero => simp [Lib.compactUpTo]
  | succ m ih =>
    obtain ⟨h1, h2⟩ := ih (by omega)
    have hget : s.toArray[m]! = s[m] := by simp [show m < s.length by omega]
    rw [Lib.compactUpTo_succ, List.take_succ_eq_append_getElem (show m < s.length by omega)]
    have hle : ∀ i (hi : i < m), s[i] ≤ s[m] := fun i hi => List.pairwise_iff_getElem.1 hs i m (by omega) (by omega) hi
    cases hk : Lib.keeps s.toArray m with
    | true =>
      rw [if_pos rfl, hget]
      refine ⟨?_, fun x => by rw [List.mem_append, List.mem_append, h2 x]⟩
      rw [List.pairwise_append]
      refine ⟨h1, by simp, fun a ha b hb => ?_⟩
      simp at hb
      subst hb
      have ha2 := (h2 a).1 ha
      obtain ⟨i, hi, rfl⟩ := List.getElem_of_mem ha2
      rw [List.length_take] at hi
      rw [List.getElem_take]
      have h0 : m ≠ 0 := by omega
      have hne : s[m] ≠ s[m - 1] := by
        simp only [Lib.keeps, decide_eq_true_eq, h0, false_or] at hk
        rw [hget] at hk
        have : s.toArray[m - 1]! = s[m - 1] := by simp [show m - 1 < s.length by omega]
        rw [this] at hk
        exact hk
      have q1 := hle (m - 1) (by omega)
      have q2 : s[i] ≤ s[m - 1] := by
        by_cases e : i = m - 1
        · subst e; exact Int.le_refl _
        · exact List.pairwise_iff_getElem.1 hs i (m - 1) (by omega) (by omega) (by omega)
      omega
    | false =>
      rw [if_neg (by simp)]
      refine ⟨by simpa using h1, fun x => ?_⟩
      simp only [List.append_nil, h2 x, List.mem_append, List.mem_singleton]
      constructor
      · intro h; exact .inl h
      · rintro (h | rfl)
        · exact h
        · simp only [Lib.keeps, decide_eq_false_iff_not, not_or, Classical.not_not] at hk
          have : s.toArray[m - 1]! = s[m - 1] := by simp [show m - 1 < s.length by omega]
          rw [hget, this] at hk
          rw [hk.2]
          have hp : m - 1 < (s.take m).length := by rw [List.length_take]; omega
          have := List.getElem_mem hp
          rwa [List.getElem_take] at this
theorem compact_sort (l : List Int) : Lib.compact (srtL l) = dedL l := by
  have h := compact_go (srt_le l) (srtL l).length (Nat.le_refl _)
  have hd := foldl_put (l := l) (s := []) List.Pairwise.nil
  refine sorted_ext h.1 hd.1 fun x => ?_
  refine (show x ∈ Lib.compact (srtL l) ↔ _ from h.2 x).trans ?_
  rw [List.take_length, srt_mem]
  exact ((hd.2 x).trans (by simp)).symm

theorem Sort_none (p : Option Addr) (cap : Nat) (w : World) : Calls Tryz.prog 91 #[.slice p 0 cap] w fun e w' => e = .returned (.tuple #[]) ∧ w = w' :=
  (Any.slices_Sort_int_none Tryz.lays189 p cap w).mono fun e w' ⟨he, hw⟩ => ⟨he, hw.symm⟩
theorem Compact_none (p : Option Addr) (cap : Nat) (w : World) : Calls Tryz.prog 92 #[.slice p 0 cap] w fun e w' => e = .returned (.slice p 0 cap) ∧ w = w' :=
  (Any.slices_Compact_int_empty Tryz.laysNm220 p cap w).mono fun e w' ⟨he, hw⟩ => ⟨he, hw.symm⟩
theorem Compact_n (zs : List Int) (n g c : Nat) {lo hi : Nat} (w : World) (hn : n = zs.length) (hown : Own w lo hi (.slice (some ⟨g, 0, none⟩) n c) zs) (hl : n ≤ 1048576) :
    Calls Tryz.prog 92 #[.slice (some ⟨g, 0, none⟩) n c] w fun e w' => e = .returned (.slice (some ⟨g, 0, none⟩) (Lib.compact zs).length c) ∧ Own w' lo hi (.slice (some ⟨g, 0, none⟩) (Lib.compact zs).length c) (Lib.compact zs) ∧ Fr lo hi w w' := by
  subst hn
  rcases hown.1.2 with ⟨h, _⟩ | ⟨g', cap, cur, he, hb, hg, hnc, hcm, hsz, htk⟩
  · cases h
  · injection he with e1 e2 e3
    have e4 : g' = g := (congrArg Addr.block (Option.some.inj e1)).symm
    subst e4 e3
    have hlt := hown.lt g' (by simp [Value.ownBlock])
    have htk' : cur.toList.take zs.length = zs.map (Value.int .i64) := by simpa using htk
    have hcl := Lib.compact_length_le zs
    refine (Any.slices_Compact_int Tryz.laysNm220 g' 0 c zs w (Go.holds_of_blockI hg htk') (by omega) hnc).mono fun e w' ⟨he, q, hw⟩ => ?_
    have hw2 : w' = Go.Sort.grow (Go.Sort.putRow (Value.int .i64) (Go.Sort.ahead w q) g' 0 (Lib.compact zs ++ List.replicate (zs.length - (Lib.compact zs).length) 0).toArray) #[] := by rw [Go.Sort.grow_empty]; exact hw
    subst hw2
    refine ⟨he, ⟨⟨by simp, .inr ⟨g', c, _, rfl, hb, Go.heap_sortedI _ hg, by omega, hcm, by simp [Go.Sort.putCells, hsz], ?_⟩⟩, fun k hk => hown.2 k (by simpa [Value.ownBlock] using hk)⟩, Fr.grown (Go.grownBy_sortedI _) (fun k hk => by injection hk with hk; omega)⟩
    have ht := Go.take_putCellsI cur (Lib.compact zs ++ List.replicate (zs.length - (Lib.compact zs).length) 0) (by simp; omega)
    have h2 := congrArg (List.take (Lib.compact zs).length) ht
    rw [List.take_take, Nat.min_eq_left (by simp), List.map_append, List.take_left' (by simp)] at h2
    simpa using h2
/-- the sort, whatever is there -/
theorem Sort_u (zs : List Int) (A : Option Addr) (n c : Nat) {lo hi : Nat} (w : World) (hn : n = zs.length) (hown : Own w lo hi (.slice A n c) zs) (hl : n ≤ 1048576) :
    Calls Tryz.prog 91 #[.slice A n c] w fun e w' => e = .returned (.tuple #[]) ∧ Own w' lo hi (.slice A n c) (srtL zs) ∧ Fr lo hi w w' := by
  by_cases h0 : n = 0
  · have h1 : zs = [] := List.eq_nil_of_length_eq_zero (by omega)
    subst h0 h1
    exact (Sort_none A c w).mono fun e w' ⟨he, hw⟩ => ⟨he, by rw [← hw]; simpa [srtL] using hown, by rw [← hw]; exact Fr.refl _ _ _⟩
  · obtain ⟨g, c', he, _⟩ := hown.at_ (by omega)
    injection he with e1 e2 e3
    subst e1 e3
    subst hn
    exact Sort_own zs g c w hown hl
theorem Compact_u (zs : List Int) (A : Option Addr) (n c : Nat) {lo hi : Nat} (w : World) (hn : n = zs.length) (hown : Own w lo hi (.slice A n c) zs) (hl : n ≤ 1048576) (L : List Int) (hL : Lib.compact zs = L) :
    Calls Tryz.prog 92 #[.slice A n c] w fun e w' => e = .returned (.slice A L.length c) ∧ Own w' lo hi (.slice A L.length c) L ∧ Fr lo hi w w' := by
  subst hL
  by_cases h0 : n = 0
  · have h1 : zs = [] := List.eq_nil_of_length_eq_zero (by omega)
    subst h0 h1
    exact (Compact_none A c w).mono fun e w' ⟨he, hw⟩ => ⟨he, by rw [← hw]; exact hown, by rw [← hw]; exact Fr.refl _ _ _⟩
  · obtain ⟨g, c', he, _⟩ := hown.at_ (by omega)
    injection he with e1 e2 e3
    subst e1 e3
    exact Compact_n zs n g c w hn hown hl
end Go.Proofs.YtjhbffndiaggmaaGreatDoor
