/-
  Plain facts on messages that are hidden, opened and received. No program here.
-/
import Derived.Test.YteajjbfecpffeaaFactP
import Derived.Test.YteajjbfecpffeaaRecv
namespace Go.Proofs.Yteajjbfecpffeaa
set_option linter.unusedVariables false
set_option linter.unusedSimpArgs false

theorem shf_back {s n : Int} (hs : 1 ≤ s ∧ s ≤ 60) : shf (shf s n 1) n (-1) = s := by unfold shf; omega
theorem shf_forth {s n : Int} (hs : 1 ≤ s ∧ s ≤ 60) : shf (shf s n (-1)) n 1 = s := by unfold shf; omega
theorem shL_back {ss ns : List Int} (hs : ∀ k (_ : k < ss.length), 1 ≤ ss[k] ∧ ss[k] ≤ 60) (hl : ss.length ≤ ns.length) : shL (shL ss ns 1) ns (-1) = ss := by
  have h1 := shL_len ss ns 1 hl
  refine List.ext_getElem (by rw [shL_len _ _ _ (by omega), h1]) fun k h2 h3 => ?_
  rw [shL_at _ _ _ k (by omega) (by omega) h2, shL_at _ _ _ k h3 (by omega) (by omega)]
  exact shf_back (hs k h3)
theorem shL_forth {ss ns : List Int} (hs : ∀ k (_ : k < ss.length), 1 ≤ ss[k] ∧ ss[k] ≤ 60) (hl : ss.length ≤ ns.length) : shL (shL ss ns (-1)) ns 1 = ss := by
  have h1 := shL_len ss ns (-1) hl
  refine List.ext_getElem (by rw [shL_len _ _ _ (by omega), h1]) fun k h2 h3 => ?_
  rw [shL_at _ _ _ k (by omega) (by omega) h2, shL_at _ _ _ k h3 (by omega) (by omega)]
  exact shf_forth (hs k h3)
theorem putM_ufP (us : List Int) : ∀ m, putM us (ufP us m) = ufU us m
  | 0 => rfl
  | m + 1 => by
    have h := putM_ufP us m
    unfold putM at h ⊢
    rw [ufP_succ, List.foldl_append, h]; rfl
theorem putM_new_len {us y : List Int} (hu : us.Pairwise (· < ·)) (hy : y.Nodup) (hn : ∀ x ∈ y, x ∉ us) : (putM us y).length = us.length + y.length := by
  have h := sort_eq (l := us ++ y) (putM_pw (us := us) (y := y) hu) (List.nodup_append.2 ⟨nodup_of_lt hu, hy, fun a ha b hb e => hn b hb (e ▸ ha)⟩) (fun x => by rw [List.mem_append]; exact putM_mem.symm)
  rw [← h, srt_len, List.length_append]
theorem newB_mem {us y : List Int} (h : newB us y = true) : ∀ x ∈ y, x ∉ us := fun x hx hu => by
  unfold newB at h
  have := List.all_eq_true.1 h x hx
  simp [hasB, hu] at this
theorem ufP_nodup {key pages : Int} {us : List Int} {m : Nat} (h : kbB key pages us = true) (hm : (us.length : Int) + m ≤ pages) : (ufP us m).Nodup := by
  have key : ∀ k, k ≤ (ufP us m).length → ((ufP us m).take k).Nodup := by
    intro k
    induction k with
    | zero => intro _; simp
    | succ k ih => intro hk; exact nodup_more (by omega) (ih (by omega)) (pages_new h hm (i := k) (by omega)).2.2
  have := key _ (Nat.le_refl _)
  rwa [List.take_length] at this
/-- what was received once -/
theorem sm_one {key pages : Int} {us P S : List Int} (h : rsB key pages us P S = true) :
    rsB key pages (putM us P) P S = decide ((P.length : Int) = 0) ∧ kbB key pages (putM us P) = true ∧ kbB key pages us = true ∧ (putM us P).length = us.length + P.length ∧ osB key pages us P S = true ∧ us.length ≤ 60 ∧ P.length ≤ 60 := by
  unfold rsB at h
  rw [Bool.and_eq_true] at h
  obtain ⟨ho, hn⟩ := h
  obtain ⟨hk, hnd, hbd, hl, hu⟩ := os_part ho
  obtain ⟨_, _, hpw, _⟩ := kb_facts hk
  have hk2 := putM_kb (y := P) hk hbd
  refine ⟨?_, hk2, hk, putM_new_len hpw hnd (newB_mem hn), ho, hu, hl⟩
  unfold rsB
  have ho2 : osB key pages (putM us P) P S = true := by
    unfold osB at ho ⊢
    rw [Bool.and_eq_true] at ho ⊢
    exact ⟨hk2, ho.2⟩
  rw [ho2, Bool.true_and]
  cases P with
  | nil => rfl
  | cons a P =>
    have : newB (putM us (a :: P)) (a :: P) = false := newB_at (k := 0) (by simp) (by simp [hasB, putM_mem])
    rw [this]
    symm
    simp only [decide_eq_false_iff_not, List.length_cons]
    omega
/-- what was hidden -/
theorem sm_ok {key pages : Int} {us ss : List Int} (h : hmB key pages us ss = true) :
    osB key pages us (hmP key pages us ss) (hmS key pages us ss) = true ∧ osL key pages us (hmP key pages us ss) (hmS key pages us ss) = ss ∧ rsB key pages us (hmP key pages us ss) (hmS key pages us ss) = true ∧
    rsK key pages us (hmP key pages us ss) (hmS key pages us ss) = hmK key pages us ss ∧ rsG key pages us (hmP key pages us ss) (hmS key pages us ss) = hmG key pages us ss ∧ rsL key pages us (hmP key pages us ss) (hmS key pages us ss) = hmL key pages us ss ∧ rsS key pages us (hmP key pages us ss) (hmS key pages us ss) = ss ∧
    ndP (ss.length : Int) = ((hmP key pages us ss).length : Int) ∧ scB (hmP key pages us ss) (hmS key pages us ss) = true ∧ ss.length ≤ 60 ∧ (hmP key pages us ss).length ≤ 60 ∧
    (∀ x ∈ hmP key pages us ss, hasB us x = false ∧ hasB (hmL key pages us ss) x = true) := by
  obtain ⟨e1, e2, e3, e4, e5⟩ := hm_yes h
  unfold hmB at h
  simp only [Bool.and_eq_true, decide_eq_true_eq] at h
  obtain ⟨h1, h2, h3⟩ := h
  obtain ⟨_, f1, f2, f3, f4, f5⟩ := hm_facts h1 h2 h3
  have h3' := h3
  unfold ufB at h3'
  simp only [Bool.and_eq_true, decide_eq_true_eq] at h3'
  obtain ⟨hk, _, hm⟩ := h3'
  have hnd := ufP_nodup hk hm
  simp only [e1, e2, e3, e4, e5]
  obtain ⟨P, hP⟩ : ∃ P, P = ufP us (ufM (ss.length : Int)) := ⟨_, rfl⟩
  have hU := putM_ufP us (ufM (ss.length : Int))
  have hnew := fun i hi => pages_new (m := ufM (ss.length : Int)) hk hm (i := i) hi
  have hpb : ∀ k (_ : k < (ufP us (ufM (ss.length : Int))).length), 0 ≤ (ufP us (ufM (ss.length : Int)))[k] ∧ (ufP us (ufM (ss.length : Int)))[k] ≤ pages - 1 := by
    intro j hj
    refine ⟨(f5 j hj).1, ?_⟩
    have e : (ufP us (ufM (ss.length : Int)))[j] = (pfx (ufU us j) : Int) := by simp [ufP]
    rw [e]
    rw [ufP_len] at hj
    obtain ⟨g1, g2⟩ := kb_iter hk j (by omega)
    exact (kb_step g1 (by omega)).2.2.2
  rw [← hP] at f2 f3 f4 f5 hnd hU hnew hpb ⊢
  have hnl : ss.length ≤ (numsL key P).length := by rw [numsL_len]; exact f3
  have hS : (shL ss (numsL key P) 1).length = ss.length := shL_len _ _ _ hnl
  have hsc : scB P (shL ss (numsL key P) 1) = true := by
    have hnd2 : (P.length : Int) = ndP (ss.length : Int) := by unfold ndP; omega
    unfold scB
    rw [hS]
    simp only [Bool.and_eq_true, decide_eq_true_eq]
    refine ⟨h1, allB_iff.2 fun k hk => ?_, hnd2, allB_iff.2 f5, hnd⟩
    rw [shL_at _ _ _ k (by omega) (by omega) hk]
    exact shf_bd _ _ _
  have hos : osB key pages us P (shL ss (numsL key P) 1) = true := by
    unfold osB
    simp only [Bool.and_eq_true]
    exact ⟨hk, hsc, allB_iff.2 hpb⟩
  have hback := shL_back (ns := numsL key P) f1 hnl
  have hrs : rsB key pages us P (shL ss (numsL key P) 1) = true := by
    unfold rsB
    rw [hos, Bool.true_and, newB_iff]
    exact fun i hi => (hnew i hi).1
  obtain ⟨r1, r2, r3, r4⟩ := rs_yes hrs
  refine ⟨hos, by rw [osL_yes hos]; exact hback, hrs, r1, r2, by rw [r3, hU], by rw [r4]; exact hback, by unfold ndP; omega, hsc, h1, f2, fun x hx => ?_⟩
  obtain ⟨i, hi, rfl⟩ := List.getElem_of_mem hx
  exact ⟨(hnew i hi).1, (hnew i hi).2.1⟩
end Go.Proofs.Yteajjbfecpffeaa
