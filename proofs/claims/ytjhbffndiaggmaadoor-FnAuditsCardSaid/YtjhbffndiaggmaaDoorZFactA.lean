/-
  Plain laws that the statement FnAudits needs: the faults of two neighbours and of a line, their counts, and true lines. No program here.
-/
import Derived.Test.YtjhbffndiaggmaaDoorB26
import Derived.Test.YtjhbffndiaggmaaDoorZFaText
namespace Go.Proofs.YtjhbffndiaggmaaDoor
set_option linter.unusedVariables false
set_option linter.unusedSimpArgs false

/-! ### what a fault is -/
theorem pfL_kind {a b : List Ent} {x : List Int} (h : x ∈ pfL a b) : ∃ (e : Ent) (q : Int), x = [e.msg, e.part, q] ∧ (1 ≤ q ∧ q ≤ 4) ∧ (e ∈ a ∨ e ∈ b) := by
  unfold pfL pfAB at h
  rcases List.mem_append.1 h with h | h
  · unfold pfA at h
    obtain ⟨e, he, rfl⟩ := List.mem_map.1 h
    obtain ⟨h1, h2⟩ := List.mem_filter.1 he
    have hb := pfK_bd e b
    have h3 : 0 < pfK e b := by simpa using h2
    exact ⟨e, _, rfl, by omega, .inl (List.mem_of_mem_take h1)⟩
  · unfold pfB at h
    obtain ⟨e, he, rfl⟩ := List.mem_map.1 h
    obtain ⟨h1, h2⟩ := List.mem_filter.1 he
    exact ⟨e, 4, rfl, by omega, .inr (List.mem_of_mem_take h1)⟩
theorem lfE_kind {l : List Ent} {i : Int} {k : Nat} {x : List Int} (h : x ∈ lfE l i k) : ∃ e : Ent, x = [e.msg, e.part, 5, i] ∧ e ∈ l := by
  unfold lfE at h
  obtain ⟨e, he, rfl⟩ := List.mem_map.1 h
  exact ⟨e, rfl, List.mem_of_mem_take (List.mem_filter.1 he).1⟩
theorem lfRow_kind {es : List (List Ent)} {i : Nat} {x : List Int} (h : x ∈ lfRow es i) : ∃ (e : Ent) (q : Int), x = [e.msg, e.part, q, (i : Int)] ∧ (1 ≤ q ∧ q ≤ 5) ∧ i < es.length ∧ ∃ l ∈ es, e ∈ l := by
  have hi := (lfRow_mem h).2.2
  by_cases h2 : i + 1 < es.length
  · rw [lfRow_more h2] at h
    rcases List.mem_append.1 h with h | h
    · obtain ⟨e, rfl, he⟩ := lfE_kind h
      exact ⟨e, 5, rfl, by omega, hi, es[i], List.getElem_mem hi, he⟩
    · unfold lfP at h
      obtain ⟨y, hy, rfl⟩ := List.mem_map.1 h
      obtain ⟨e, q, rfl, hq, he⟩ := pfL_kind (List.mem_of_mem_take hy)
      refine ⟨e, q, rfl, by omega, hi, ?_⟩
      rcases he with he | he
      · exact ⟨es[i], List.getElem_mem hi, he⟩
      · exact ⟨es[i + 1], List.getElem_mem h2, he⟩
  · rw [lfRow_last hi h2] at h
    obtain ⟨e, rfl, he⟩ := lfE_kind h
    exact ⟨e, 5, rfl, by omega, hi, es[i], List.getElem_mem hi, he⟩
theorem lfL_kind {es : List (List Ent)} (hl : logsB es = true) {x : List Int} (h : x ∈ lfL es) : ∃ (m p q : Int) (i : Nat), x = [m, p, q, (i : Int)] ∧ i < es.length ∧ ftB x = true := by
  unfold lfL lfTo at h
  obtain ⟨r, hr, hx⟩ := List.mem_flatten.1 h
  obtain ⟨i, _, rfl⟩ := List.mem_map.1 hr
  obtain ⟨e, q, rfl, hq, hi, l, hle, hel⟩ := lfRow_kind hx
  refine ⟨_, _, q, i, rfl, hi, ?_⟩
  obtain ⟨j, hj, rfl⟩ := List.getElem_of_mem hle
  obtain ⟨k, hk, rfl⟩ := List.getElem_of_mem hel
  have h1 := log_at ((logsB_iff.1 hl).2 j hj) k hk
  have h8 := logsB_len8 hl
  simp only [ftB, Bool.and_eq_true, inB_iff]
  refine ⟨by simp, ?_, ?_, ?_, ?_⟩
  · show 1 ≤ es[j][k].msg ∧ es[j][k].msg ≤ 999; omega
  · show 0 ≤ es[j][k].part ∧ es[j][k].part ≤ 8; omega
  · show 1 ≤ q ∧ q ≤ 5; omega
  · show 0 ≤ (i : Int) ∧ (i : Int) ≤ 7; omega
theorem ftL_ne {x : List Int} (h : ftB x = true) : ftL x ≠ [] := by
  intro e
  unfold ftL at e
  rw [if_pos h] at e
  simp [f6, f5, f4, f3, f2, f1] at e

/-! ### two logs -/
theorem pair_logs {a b : List Ent} (h : ppB a b = true) : logsB [a, b] = true := by
  simp only [ppB, Bool.and_eq_true] at h
  refine logsB_iff.2 ⟨by simp, fun k hk => ?_⟩
  match k, hk with
  | 0, _ => exact h.1
  | 1, _ => exact h.2
  | k + 2, hk => simp at hk; omega
theorem lf_two (a b : List Ent) : lfL [a, b] = lfE a 0 a.length ++ (lfP (pfL a b) 0 (pfL a b).length ++ lfE b 1 b.length) := by
  have h0 := lfRow_more (es := [a, b]) (i := 0) (by simp)
  have h1 := lfRow_last (es := [a, b]) (i := 1) (by simp) (by simp)
  show lfTo [a, b] 2 = _
  rw [lfTo_succ, lfTo_succ, lfTo_zero, h0, h1]
  simp
/-- how many of the neighbours' faults stand among the first k -/
def bw (n1 n2 k : Nat) : Nat := min (k - n1) n2
theorem bw_zero (n1 n2 : Nat) : bw n1 n2 0 = 0 := by simp [bw]
theorem bw_end {a b : List Ent} : bw (lfE a 0 a.length).length (pfL a b).length (lfL [a, b]).length = (pfL a b).length := by
  rw [lf_two]
  simp only [List.length_append, lfP_len _ _ _ (Nat.le_refl _), bw]
  omega
theorem au_round {a b : List Ent} {k : Nat} (hk : k < (lfL [a, b]).length) : ∃ (m p q i : Int), (lfL [a, b])[k] = [m, p, q, i] ∧
    ((q = 5 ∧ bw (lfE a 0 a.length).length (pfL a b).length (k + 1) = bw (lfE a 0 a.length).length (pfL a b).length k) ∨
     (¬ q = 5 ∧ i = 0 ∧ (pfL a b)[bw (lfE a 0 a.length).length (pfL a b).length k]? = some [m, p, q] ∧ bw (lfE a 0 a.length).length (pfL a b).length (k + 1) = bw (lfE a 0 a.length).length (pfL a b).length k + 1)) := by
  obtain ⟨n1, hn1⟩ : ∃ n, n = (lfE a 0 a.length).length := ⟨_, rfl⟩
  obtain ⟨n2, hn2⟩ : ∃ n, n = (pfL a b).length := ⟨_, rfl⟩
  have hP : (lfP (pfL a b) 0 (pfL a b).length).length = n2 := by rw [lfP_len _ _ _ (Nat.le_refl _), hn2]
  have hx : (lfL [a, b])[k]? = some (lfL [a, b])[k] := List.getElem?_eq_getElem hk
  generalize (lfL [a, b])[k] = x at hx
  rw [lf_two, List.getElem?_append] at hx
  rw [← hn1, ← hn2]
  split at hx
  · rename_i h1
    obtain ⟨e, rfl, -⟩ := lfE_kind (List.mem_of_getElem? hx)
    exact ⟨_, _, 5, 0, rfl, .inl ⟨rfl, by simp only [bw]; omega⟩⟩
  · rename_i h1
    rw [← hn1] at h1
    rw [List.getElem?_append] at hx
    split at hx
    · rename_i h2
      rw [hP, ← hn1] at h2
      rw [← hn1] at hx
      have hb : bw n1 n2 k = k - n1 := by simp only [bw]; omega
      have hk2 : k - n1 < (pfL a b).length := by omega
      unfold lfP at hx
      rw [List.take_length, List.getElem?_map, List.getElem?_eq_getElem hk2] at hx
      obtain ⟨e, q, hq, hqb, -⟩ := pfL_kind (List.getElem_mem hk2)
      simp only [Option.map_some, Option.some.injEq] at hx
      rw [hq] at hx
      subst hx
      refine ⟨e.msg, e.part, q, 0, rfl, .inr ⟨by omega, rfl, ?_, by simp only [bw]; omega⟩⟩
      rw [hb, List.getElem?_eq_getElem hk2, hq]
    · rename_i h2
      rw [hP, ← hn1] at h2
      obtain ⟨e, rfl, -⟩ := lfE_kind (List.mem_of_getElem? hx)
      exact ⟨_, _, 5, 1, rfl, .inl ⟨rfl, by simp only [bw]; omega⟩⟩

/-! ### the counts -/
theorem mx_pos {es : List (List Ent)} (h : logsB es = true) : msB es = decide (0 < (lfL es).length) := by
  obtain ⟨M, hM⟩ : ∃ M, mxL (fcTo (lfL es) es.length (lfL es).length) = M := ⟨_, rfl⟩
  rw [(ms_at h hM).2]
  have hge := foldl_max_ge (fcTo (lfL es) es.length (lfL es).length) 0
  have e : mxL (fcTo (lfL es) es.length (lfL es).length) = (fcTo (lfL es) es.length (lfL es).length).foldl max 0 := rfl
  rw [← e, hM] at hge
  by_cases h0 : 0 < (lfL es).length
  · obtain ⟨m, p, q, i, hx, hi⟩ := lfL_at h0
    have hc : i < (fcTo (lfL es) es.length (lfL es).length).length := by rw [fcTo_len]; exact hi
    have h1 := hge.2 _ (List.getElem_mem hc)
    rw [fcTo_at] at h1
    have h2 : (lfL es)[0] ∈ ((lfL es).take (lfL es).length).filter fun x => decide (x[3]? = some (i : Int)) := by
      rw [List.take_length, List.mem_filter]
      exact ⟨List.getElem_mem h0, by rw [hx]; simp⟩
    have h3 := List.length_pos_of_mem h2
    simp [h0]
    omega
  · have h1 : mxL (fcTo (lfL es) es.length (lfL es).length) ≤ 0 := foldl_max_le _ 0 0 (Int.le_refl _) fun x hx => by
      obtain ⟨j, hj, rfl⟩ := List.getElem_of_mem hx
      have := fcTo_bd (lfL es) es.length (lfL es).length j hj
      omega
    simp [h0]
    omega
theorem idxI_le {zs : List Int} {n : Int} {i : Nat} (hi : i < zs.length) (h : zs[i] = n) : idxI zs n ≤ (i : Int) := by
  unfold idxI
  cases h1 : zs.findIdx? (· == n) with
  | none =>
    rw [List.findIdx?_eq_none_iff] at h1
    have := h1 _ (List.getElem_mem hi)
    simp [h] at this
  | some k =>
    rw [List.findIdx?_eq_some_iff_getElem] at h1
    obtain ⟨hk, _, hj⟩ := h1
    by_cases hik : i < k
    · have := hj i hik
      simp [h] at this
    · simp only; omega
theorem au_most {es : List (List Ent)} (h : logsB es = true) {i : Nat} (hi : i < (fcL es).length) : (fcL es)[i] ≤ msM es ∧ ((fcL es)[i] = msM es → msB es = true → ¬ (i : Int) < msI es) := by
  obtain ⟨M, hM⟩ : ∃ M, mxL (fcTo (lfL es) es.length (lfL es).length) = M := ⟨_, rfl⟩
  obtain ⟨hm, hb⟩ := ms_at h hM
  have hge := foldl_max_ge (fcTo (lfL es) es.length (lfL es).length) 0
  have e : mxL (fcTo (lfL es) es.length (lfL es).length) = (fcTo (lfL es) es.length (lfL es).length).foldl max 0 := rfl
  rw [← e, hM] at hge
  have hi2 : i < (fcTo (lfL es) es.length (lfL es).length).length := by rw [← fcL_yes h]; exact hi
  have hx : (fcL es)[i] = (fcTo (lfL es) es.length (lfL es).length)[i] := by simp only [fcL_yes h]
  rw [hx, hm]
  refine ⟨hge.2 _ (List.getElem_mem hi2), fun h1 h2 => ?_⟩
  rw [hb] at h2
  rw [ms_idx hm (by simpa using h2) rfl]
  have := idxI_le hi2 h1
  omega

/-! ### true lines -/
theorem len_le_of_sub {α : Type} [BEq α] [LawfulBEq α] : ∀ {l m : List α}, l.Nodup → (∀ x ∈ l, x ∈ m) → l.length ≤ m.length
  | [], _, _, _ => Nat.zero_le _
  | x :: l, m, hn, hs => by
    have hx : x ∈ m := hs x (by simp)
    have hn' := List.nodup_cons.1 hn
    have := len_le_of_sub (l := l) (m := m.erase x) hn'.2 fun y hy => (List.mem_erase_of_ne (fun e => hn'.1 (by rw [← e]; exact hy))).2 (hs y (by simp [hy]))
    rw [List.length_erase_of_mem hx] at this
    have := List.length_pos_of_mem hx
    simp only [List.length_cons]
    omega
def keysE (l : List Ent) : List (Int × Int) := l.map fun e => (e.msg, e.part)
theorem isE_iff {e : Ent} {m p : Int} : isE e m p = true ↔ e.msg = m ∧ e.part = p := by simp [isE]
theorem findI_key {l : List Ent} {m p : Int} {q : Nat} (h : findI l m p = (q : Int)) (hq : q < l.length) : l[q].msg = m ∧ l[q].part = p := by
  rcases findI_cases l m p with ⟨k, hk, e, h1, _⟩ | ⟨e, _⟩
  · have : k = q := by omega
    subst this
    exact isE_iff.1 h1
  · omega
theorem lfRow_sub {es : List (List Ent)} {i : Nat} (hi : i < es.length) {x : List Int} (h : x ∈ lfRow es i) : x ∈ lfL es :=
  List.mem_flatten.2 ⟨lfRow es i, List.mem_map.2 ⟨i, List.mem_range.2 hi, rfl⟩, h⟩
theorem tl_seen {es : List (List Ent)} (h0 : (lfL es).length = 0) {i : Nat} (hi : i < es.length) {k : Nat} (hk : k < es[i].length) : es[i][k].seen = es[i][k].shown := by
  have hn := List.eq_nil_of_length_eq_zero h0
  cases hq : eqL es[i][k].seen es[i][k].shown with
  | true => exact eqL_true hq
  | false =>
    have h1 : [es[i][k].msg, es[i][k].part, 5, (i : Int)] ∈ lfE es[i] i es[i].length := by
      unfold lfE
      rw [List.take_length]
      exact List.mem_map.2 ⟨es[i][k], List.mem_filter.2 ⟨List.getElem_mem hk, by rw [hq]; rfl⟩, rfl⟩
    have h2 : [es[i][k].msg, es[i][k].part, 5, (i : Int)] ∈ lfRow es i := by
      by_cases h3 : i + 1 < es.length
      · rw [lfRow_more h3]; exact List.mem_append_left _ h1
      · rw [lfRow_last hi h3]; exact h1
    have h4 := lfRow_sub hi h2
    rw [hn] at h4
    exact absurd h4 (by simp)
theorem tl_pair {es : List (List Ent)} (h0 : (lfL es).length = 0) {i : Nat} (hi : i + 1 < es.length) : pfL es[i] es[i + 1] = [] := by
  have hn := List.eq_nil_of_length_eq_zero h0
  cases hp : pfL es[i] es[i + 1] with
  | nil => rfl
  | cons x r =>
    have h1 : x ++ [(i : Int)] ∈ lfP (pfL es[i] es[i + 1]) i (pfL es[i] es[i + 1]).length := by
      unfold lfP
      rw [List.take_length, hp]
      exact List.mem_map.2 ⟨x, by simp, rfl⟩
    have h2 := lfRow_sub (show i < es.length by omega) (x := x ++ [(i : Int)]) (by rw [lfRow_more hi]; exact List.mem_append_right _ h1)
    rw [hn] at h2
    exact absurd h2 (by simp)
theorem tl_next {es : List (List Ent)} (h0 : (lfL es).length = 0) {i : Nat} (hi : i + 1 < es.length) :
    (∀ k (hk : k < es[i].length), ∃ (q : Nat) (hq : q < es[i + 1].length), findI es[i + 1] es[i][k].msg es[i][k].part = (q : Int) ∧ es[i + 1][q].seen = es[i][k].shown ∧ es[i][k].time ≤ es[i + 1][q].time) ∧
    (∀ k (hk : k < es[i + 1].length), ∃ (q : Nat) (hq : q < es[i].length), findI es[i] es[i + 1][k].msg es[i + 1][k].part = (q : Int)) := by
  have hp := tl_pair h0 hi
  unfold pfL pfAB at hp
  obtain ⟨hA, hB⟩ := List.append_eq_nil_iff.1 hp
  constructor
  · intro k hk
    have h1 : ¬ 0 < pfK es[i][k] es[i + 1] := fun h => by
      have : [es[i][k].msg, es[i][k].part, pfK es[i][k] es[i + 1]] ∈ pfA es[i] es[i + 1] es[i].length := by
        unfold pfA
        rw [List.take_length]
        exact List.mem_map.2 ⟨es[i][k], List.mem_filter.2 ⟨List.getElem_mem hk, by simpa using h⟩, rfl⟩
      rw [hA] at this
      exact absurd this (by simp)
    have h2 := pfK_bd es[i][k] es[i + 1]
    have h3 : pfK es[i][k] es[i + 1] = 0 := by omega
    by_cases hf : 0 ≤ findI es[i + 1] es[i][k].msg es[i][k].part
    · obtain ⟨q, e, hq⟩ := findI_cast2 hf
      refine ⟨q, hq, e, ?_⟩
      cases h4 : eqL es[i + 1][q].seen es[i][k].shown with
      | false => rw [pfK_2 e hq h4] at h3; omega
      | true =>
        refine ⟨eqL_true h4, ?_⟩
        by_cases h5 : es[i + 1][q].time < es[i][k].time
        · rw [pfK_3 e hq h4 h5] at h3; omega
        · omega
    · rw [pfK_1 hf] at h3; omega
  · intro k hk
    by_cases hf : 0 ≤ findI es[i] es[i + 1][k].msg es[i + 1][k].part
    · obtain ⟨q, e, hq⟩ := findI_cast2 hf
      exact ⟨q, hq, e⟩
    · have : [es[i + 1][k].msg, es[i + 1][k].part, 4] ∈ pfB es[i] es[i + 1] es[i + 1].length := by
        unfold pfB
        rw [List.take_length]
        exact List.mem_map.2 ⟨es[i + 1][k], List.mem_filter.2 ⟨List.getElem_mem hk, by simpa using hf⟩, rfl⟩
      rw [hB] at this
      exact absurd this (by simp)
theorem keys_nodup {l : List Ent} (h : logB l = true) : (keysE l).Nodup := by
  unfold List.Nodup
  rw [List.pairwise_iff_getElem]
  intro i j hi hj hij e
  simp only [keysE, List.length_map] at hi hj
  simp only [keysE, List.getElem_map, Prod.mk.injEq] at e
  have h1 := (log_at h i hi).2.2.2.2.2
  have h2 := (log_at h j hj).2.2.2.2.2
  rw [e.1, e.2, h2] at h1
  omega
theorem tl_len {es : List (List Ent)} (hl : logsB es = true) (h0 : (lfL es).length = 0) {i : Nat} (hi : i + 1 < es.length) : es[i + 1].length = es[i].length := by
  obtain ⟨h1, h2⟩ := tl_next h0 hi
  have hg := (logsB_iff.1 hl).2
  have n1 := keys_nodup (hg i (by omega))
  have n2 := keys_nodup (hg (i + 1) hi)
  have a := len_le_of_sub n1 (m := keysE es[i + 1]) fun x hx => by
    obtain ⟨k, hk, rfl⟩ := List.getElem_of_mem hx
    simp only [keysE, List.length_map] at hk
    obtain ⟨q, hq, e, _⟩ := h1 k hk
    have := findI_key e hq
    simp only [keysE, List.getElem_map]
    exact List.mem_map.2 ⟨es[i + 1][q], List.getElem_mem hq, by rw [this.1, this.2]⟩
  have b := len_le_of_sub n2 (m := keysE es[i]) fun x hx => by
    obtain ⟨k, hk, rfl⟩ := List.getElem_of_mem hx
    simp only [keysE, List.length_map] at hk
    obtain ⟨q, hq, e⟩ := h2 k hk
    have := findI_key e hq
    simp only [keysE, List.getElem_map]
    exact List.mem_map.2 ⟨es[i][q], List.getElem_mem hq, by rw [this.1, this.2]⟩
  simp only [keysE, List.length_map] at a b
  omega
theorem tl_pos {es : List (List Ent)} (hl : logsB es = true) : 0 < es.length := (logsB_iff.1 hl).1.1
/-- at a true line each log has the first one's entries -/
theorem tl_all {es : List (List Ent)} (hl : logsB es = true) (h0 : (lfL es).length = 0) : ∀ i (hi : i < es.length), es[i].length = (es[0]'(by omega)).length ∧ ∀ k (hk : k < es[i].length), ∃ (q : Nat) (hq : q < (es[0]'(by omega)).length),
    findI (es[0]'(by omega)) es[i][k].msg es[i][k].part = (q : Int) ∧ es[i][k].shown = (es[0]'(by omega))[q].seen ∧ (es[0]'(by omega))[q].time ≤ es[i][k].time := by
  have hg := (logsB_iff.1 hl).2
  intro i
  induction i with
  | zero =>
    intro hi
    exact ⟨rfl, fun k hk => ⟨k, hk, (log_at (hg 0 hi) k hk).2.2.2.2.2, (tl_seen h0 hi hk).symm, Int.le_refl _⟩⟩
  | succ i ih =>
    intro hi
    obtain ⟨e1, h1⟩ := ih (by omega)
    refine ⟨(tl_len hl h0 hi).trans e1, fun k hk => ?_⟩
    obtain ⟨n1, n2⟩ := tl_next h0 hi
    obtain ⟨j, hj, ej⟩ := n2 k hk
    obtain ⟨km, kp⟩ := findI_key ej hj
    obtain ⟨k', hk', ek, es', et⟩ := n1 j hj
    rw [km, kp, (log_at (hg (i + 1) hi) k hk).2.2.2.2.2] at ek
    have hkk : k' = k := by omega
    subst hkk
    obtain ⟨q, hq, eq, eqs, eqt⟩ := h1 j hj
    rw [km, kp] at eq
    exact ⟨q, hq, eq, by rw [← tl_seen h0 hi hk, es', eqs], by omega⟩
theorem tl_fact {es : List (List Ent)} (hl : logsB es = true) (h0 : (lfL es).length = 0) {i : Nat} (hi : i < es.length) : es[i].length = (es[0]'(by omega)).length ∧ ∀ k (hk : k < es[i].length), ∃ (q : Nat) (hq : q < (es[0]'(by omega)).length),
    (feB (es[0]'(by omega)) es[i][k].msg es[i][k].part = true ∧ feV (es[0]'(by omega)) es[i][k].msg es[i][k].part = (q : Int)) ∧ es[i][k].shown = (es[0]'(by omega))[q].seen ∧ (es[0]'(by omega))[q].time ≤ es[i][k].time := by
  obtain ⟨h1, h2⟩ := tl_all hl h0 i hi
  refine ⟨h1, fun k hk => ?_⟩
  obtain ⟨q, hq, e, r⟩ := h2 k hk
  have hB := feB_yes ((logsB_iff.1 hl).2 0 (by omega)) (m := es[i][k].msg) (p := es[i][k].part) (by omega)
  exact ⟨q, hq, ⟨hB, (feV_yes hB).trans e⟩, r⟩
end Go.Proofs.YtjhbffndiaggmaaDoor
