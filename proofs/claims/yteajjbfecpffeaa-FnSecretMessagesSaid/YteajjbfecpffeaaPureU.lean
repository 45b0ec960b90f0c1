/-
  Plain functions for pages that are used one after the other, and their laws. No program here.
-/
import Derived.Test.YteajjbfecpffeaaPureP
namespace Go.Proofs.Yteajjbfecpffeaa
set_option linter.unusedVariables false
set_option linter.unusedSimpArgs false

theorem pfx_ex (zs : List Int) : ∃ k, k ≤ zs.length ∧ (∀ j (h : j < zs.length), j < k → zs[j] = (j : Int)) ∧ ∀ (h : k < zs.length), zs[k] ≠ (k : Int) := by
  have key : ∀ d k, k + d = zs.length → (∀ j (h : j < zs.length), j < k → zs[j] = (j : Int)) → ∃ k, k ≤ zs.length ∧ (∀ j (h : j < zs.length), j < k → zs[j] = (j : Int)) ∧ ∀ (h : k < zs.length), zs[k] ≠ (k : Int) := by
    intro d
    induction d with
    | zero => intro k h h1; exact ⟨k, by omega, h1, fun h2 => absurd h2 (by omega)⟩
    | succ d ih =>
      intro k h h1
      by_cases e : zs[k]'(by omega) = (k : Int)
      · refine ih (k + 1) (by omega) fun j hj hjk => ?_
        by_cases e2 : j = k
        · subst e2; exact e
        · exact h1 j hj (by omega)
      · exact ⟨k, by omega, h1, fun h2 => e⟩
  exact key zs.length 0 (by omega) (fun j _ h => absurd h (by omega))
theorem kb_step {key pages : Int} {us : List Int} (h : kbB key pages us = true) (hne : (us.length : Int) ≠ pages) :
    kbB key pages (putL us (pfx us)) = true ∧ (putL us (pfx us)).length = us.length + 1 ∧ (pfx us : Int) ∉ us ∧ ((pfx us : Int) ≤ pages - 1) := by
  obtain ⟨hk, hp, hpw, hbd⟩ := kb_facts h
  have hln := kb_len h
  obtain ⟨k, hk', h1, h2⟩ := pfx_ex us
  have e := pfx_at hk' h1 h2
  have hfree := pfx_free hpw (fun j h => (hbd j h).1) hk' h1 h2
  rw [e]
  refine ⟨?_, ?_, hfree, by omega⟩
  · simp only [kbB, risinB, Bool.and_eq_true, inB_iff]
    refine ⟨hk, hp, allB_iff.2 fun j hj => ?_, ris_of_pw (putL_pw hpw)⟩
    rcases putL_mem.1 (List.getElem_mem hj) with hm | hm
    · obtain ⟨i, hi, e3⟩ := List.getElem_of_mem hm
      rw [← e3]; exact hbd i hi
    · rw [hm]; omega
  · rw [← sort_put hpw hfree, srt_len]; simp
theorem pfx_full {key pages : Int} {us : List Int} (h : kbB key pages us = true) (he : (us.length : Int) = pages) : (pfx us : Int) = pages := by
  rw [← he, pfx_at (Nat.le_refl _) (fun j h' _ => kb_full h he j h') (fun h' => absurd h' (by omega))]
/-- what is used after i pages more -/
def ufU (us : List Int) : Nat → List Int
  | 0 => us
  | i + 1 => putL (ufU us i) (pfx (ufU us i))
/-- these pages -/
def ufP (us : List Int) (i : Nat) : List Int := (List.range i).map fun j => (pfx (ufU us j) : Int)
theorem ufP_zero (us : List Int) : ufP us 0 = [] := rfl
theorem ufP_succ (us : List Int) (i : Nat) : ufP us (i + 1) = ufP us i ++ [(pfx (ufU us i) : Int)] := by unfold ufP; rw [List.range_succ, List.map_append]; rfl
theorem ufP_len (us : List Int) (i : Nat) : (ufP us i).length = i := by simp [ufP]
theorem kb_iter {key pages : Int} {us : List Int} (h : kbB key pages us = true) : ∀ i : Nat, (us.length : Int) + i ≤ pages → kbB key pages (ufU us i) = true ∧ (ufU us i).length = us.length + i
  | 0, _ => ⟨h, rfl⟩
  | i + 1, hi => by
    obtain ⟨h1, h2⟩ := kb_iter h i (by omega)
    obtain ⟨h3, h4, _⟩ := kb_step h1 (by omega)
    exact ⟨h3, by show (putL (ufU us i) (pfx (ufU us i))).length = _; rw [h4, h2]; omega⟩
def ufM (n : Int) : Nat := ((n + 20 - 1) / 20).toNat
def ufB (key pages : Int) (us : List Int) (n : Int) : Bool := kbB key pages us && (inB n 0 1200 && decide ((us.length : Int) + (ufM n : Int) ≤ pages))
def ufK (key pages : Int) (us : List Int) (n : Int) : Int := if ufB key pages us n then key else 0
def ufG (key pages : Int) (us : List Int) (n : Int) : Int := if ufB key pages us n then pages else 0
def ufL (key pages : Int) (us : List Int) (n : Int) : List Int := if ufB key pages us n then ufU us (ufM n) else []
def ufN (key pages : Int) (us : List Int) (n : Int) : List Int := if ufB key pages us n then ufP us (ufM n) else []
theorem uf_no {key pages : Int} {us : List Int} {n : Int} (h : ufB key pages us n = false) : ufK key pages us n = 0 ∧ ufG key pages us n = 0 ∧ ufL key pages us n = [] ∧ ufN key pages us n = [] := by simp [ufK, ufG, ufL, ufN, h]
theorem uf_yes {key pages : Int} {us : List Int} {n : Int} (h : ufB key pages us n = true) : ufK key pages us n = key ∧ ufG key pages us n = pages ∧ ufL key pages us n = ufU us (ufM n) ∧ ufN key pages us n = ufP us (ufM n) := by simp [ufK, ufG, ufL, ufN, h]
theorem uf_m {n : Int} (h : 0 ≤ n) (h2 : n ≤ 1200) : (n + 20 - 1) / 20 = (ufM n : Int) ∧ ufM n ≤ 60 ∧ (n ≤ 20 * (ufM n : Int)) ∧ (20 * (ufM n : Int) < n + 20) := by unfold ufM; omega
end Go.Proofs.Yteajjbfecpffeaa
