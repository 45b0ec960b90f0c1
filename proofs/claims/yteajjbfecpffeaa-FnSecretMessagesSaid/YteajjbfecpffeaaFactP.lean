/-
  Plain facts on pages and their numbers. No program here.
-/
import Derived.Test.YteajjbfecpffeaaPureU
import Derived.Test.YteajjbfecpffeaaSameNum
import Derived.Test.YteajjbfecpffeaaPageMix
namespace Go.Proofs.Yteajjbfecpffeaa
set_option linter.unusedVariables false
set_option linter.unusedSimpArgs false

theorem ufU_mono {us : List Int} {x : Int} {i : Nat} (h : x ∈ ufU us i) : ∀ d, x ∈ ufU us (i + d)
  | 0 => h
  | d + 1 => putL_mem.2 (.inl (ufU_mono h d))
theorem ufU_up {us : List Int} {x : Int} {i j : Nat} (h : x ∈ ufU us i) (hij : i ≤ j) : x ∈ ufU us j := by
  have := ufU_mono h (j - i)
  rwa [show i + (j - i) = j by omega] at this
theorem ufP_take (us : List Int) (i m : Nat) (h : i ≤ m) : (ufP us m).take i = ufP us i := by
  unfold ufP
  rw [← List.map_take, List.take_range, Nat.min_eq_left h]
theorem ufP_at2 (us : List Int) (m i : Nat) (h : i < (ufP us m).length) : (ufP us m)[i] = (pfx (ufU us i) : Int) := by simp [ufP]
/-- a page that is used for a length: new, used behind, and told once -/
theorem pages_new {key pages : Int} {us : List Int} {m : Nat} (h : kbB key pages us = true) (hm : (us.length : Int) + m ≤ pages) {i : Nat} (hi : i < (ufP us m).length) :
    hasB us (ufP us m)[i] = false ∧ hasB (ufU us m) (ufP us m)[i] = true ∧ hasB ((ufP us m).take i) (ufP us m)[i] = false := by
  have him : i < m := by rwa [ufP_len] at hi
  rw [ufP_at2, ufP_take us i m (by omega)]
  obtain ⟨h1, h2⟩ := kb_iter h i (by omega)
  obtain ⟨_, _, h3, _⟩ := kb_step h1 (by omega)
  refine ⟨?_, ?_, ?_⟩
  · simp only [hasB, decide_eq_false_iff_not]
    exact fun hx => h3 (ufU_up (i := 0) hx (Nat.zero_le _))
  · simp only [hasB, decide_eq_true_eq]
    exact ufU_up (i := i + 1) (putL_mem.2 (.inr rfl)) (by omega)
  · simp only [hasB, decide_eq_false_iff_not]
    intro hx
    unfold ufP at hx
    rw [List.mem_map] at hx
    obtain ⟨j, hj, e⟩ := hx
    rw [List.mem_range] at hj
    apply h3
    rw [← e]
    exact ufU_up (i := j + 1) (putL_mem.2 (.inr rfl)) (by omega)
theorem snTo_self (x : List Int) (k : Nat) : (snTo x x k).length = k := by
  unfold snTo
  rw [List.length_map, List.filter_eq_self.2 (by simp)]
  simp
theorem snL_self {k1 p1 : Int} {z1 : List Int} {p : Int} (h : snB k1 p1 z1 p p = true) : (snL k1 p1 z1 p p).length = 20 := by
  unfold snL; rw [if_pos h]; exact snTo_self _ _
/-- a page's numbers are mixes' rests -/
theorem page_mix {k1 p1 : Int} {z1 : List Int} {page : Int} (h : pgB k1 p1 z1 page = true) {k : Nat} (hk : k < 20) :
    pmB [k1, page, (k : Int)] = true ∧ (0 ≤ pmV [k1, page, (k : Int)] ∧ pmV [k1, page, (k : Int)] < 1000003) ∧ ∀ (hl : k < (pgL k1 p1 z1 page).length), (pgL k1 p1 z1 page)[k] = pmV [k1, page, (k : Int)] % 60 := by
  obtain ⟨h1, h2⟩ := pgB_bd h
  obtain ⟨h3, h4⟩ := pmB_t (zs := [k1, page, (k : Int)]) (by simp) (pageKeys h1 h2 hk)
  refine ⟨h3, by rw [h4]; exact mixL_bd _, fun hl => ?_⟩
  rw [h4]
  have e : pgL k1 p1 z1 page = pageL k1 page := by unfold pgL; rw [if_pos h]
  have hg : (pgL k1 p1 z1 page)[k]? = some (mixL [k1, page, (k : Int)] % 60) := by rw [e]; simp [pageL, hk]
  rw [List.getElem?_eq_getElem hl] at hg
  injection hg
theorem pgL_len {k1 p1 : Int} {z1 : List Int} {page : Int} (h : pgB k1 p1 z1 page = true) : (pgL k1 p1 z1 page).length = 20 := by
  unfold pgL; rw [if_pos h]; exact pageL_len _ _
theorem pgL_le (k1 p1 : Int) (z1 : List Int) (page : Int) : (pgL k1 p1 z1 page).length ≤ 20 := by
  unfold pgL; split
  · rw [pageL_len]; exact Nat.le_refl _
  · simp
theorem pmV_bd (zs : List Int) : 0 ≤ pmV zs ∧ pmV zs < 1000003 := by
  unfold pmV; split
  · exact mixL_bd _
  · omega
theorem uf_facts {key pages : Int} {us : List Int} {n : Int} (h : ufB key pages us n = true) : kbB key pages us = true ∧ (0 ≤ n ∧ n ≤ 1200) ∧ (us.length : Int) + (ufM n : Int) ≤ pages ∧
    (ufN key pages us n).length = ufM n ∧ (ufL key pages us n).length = us.length + ufM n ∧ ufM n ≤ 60 ∧ (n ≤ 20 * (ufM n : Int)) ∧ (20 * (ufM n : Int) < n + 20) := by
  obtain ⟨_, _, e3, e4⟩ := uf_yes h
  unfold ufB at h
  simp only [Bool.and_eq_true, decide_eq_true_eq, inB_iff] at h
  obtain ⟨h1, h2, h3⟩ := h
  obtain ⟨_, m1, m2, m3⟩ := uf_m h2.1 h2.2
  exact ⟨h1, h2, h3, by rw [e4, ufP_len], by rw [e3]; exact (kb_iter h1 _ h3).2, m1, m2, m3⟩
theorem uf_at {key pages : Int} {us : List Int} {n : Int} (h : ufB key pages us n = true) {i : Nat} (hi : i < (ufN key pages us n).length) :
    hasB us (ufN key pages us n)[i] = false ∧ hasB (ufL key pages us n) (ufN key pages us n)[i] = true ∧ hasB ((ufN key pages us n).take i) (ufN key pages us n)[i] = false := by
  obtain ⟨h1, _, h3, _⟩ := uf_facts h
  obtain ⟨_, _, e3, e4⟩ := uf_yes h
  have := pages_new h1 h3 (i := i) (by rw [e4] at hi; exact hi)
  simp only [e3, e4]
  exact this
end Go.Proofs.Yteajjbfecpffeaa
