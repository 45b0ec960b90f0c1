/-
  Plain functions for sorted lists and for the pages that are used, and their laws. No program here.
-/
import Derived.Test.YteajjbfecpffeaaPure
namespace Go.Proofs.Yteajjbfecpffeaa
set_option linter.unusedVariables false
set_option linter.unusedSimpArgs false

theorem pw_of_ris {zs : List Int} (h : risB zs = true) : zs.Pairwise (· < ·) := by
  rw [List.pairwise_iff_getElem]
  have hs := risB_iff.1 h
  have key : ∀ d i (hi : i + d + 1 < zs.length), zs[i] < zs[i + d + 1] := by
    intro d
    induction d with
    | zero => intro i hi; exact hs i hi
    | succ d ih =>
      intro i hi
      have h1 := ih i (by omega)
      have h2 := hs (i + d + 1) (by omega)
      exact Int.lt_trans h1 h2
  intro i j hi hj hij
  have := key (j - i - 1) i (by omega)
  simpa [show i + (j - i - 1) + 1 = j by omega] using this
theorem ris_of_pw {zs : List Int} (h : zs.Pairwise (· < ·)) : risB zs = true := risB_iff.2 fun k hk => List.pairwise_iff_getElem.1 h k (k + 1) (by omega) hk (by omega)
theorem sorted_ext : ∀ {l1 l2 : List Int}, l1.Pairwise (· < ·) → l2.Pairwise (· < ·) → (∀ x, x ∈ l1 ↔ x ∈ l2) → l1 = l2
  | [], [], _, _, _ => rfl
  | [], b :: l2, _, _, h => absurd ((h b).2 (by simp)) (by simp)
  | a :: l1, [], _, _, h => absurd ((h a).1 (by simp)) (by simp)
  | a :: l1, b :: l2, h1, h2, h => by
    rw [List.pairwise_cons] at h1 h2
    have e : a = b := by
      have ha := (h a).1 (by simp)
      have hb := (h b).2 (by simp)
      rcases List.mem_cons.1 ha with e | ha'
      · exact e
      · rcases List.mem_cons.1 hb with e | hb'
        · exact e.symm
        · have q1 := h2.1 a ha'
          have q2 := h1.1 b hb'
          omega
    subst e
    rw [sorted_ext h1.2 h2.2 fun x => ?_]
    constructor
    · intro hx
      rcases List.mem_cons.1 ((h x).1 (by simp [hx])) with e | h'
      · subst e; exact absurd (h1.1 x hx) (by omega)
      · exact h'
    · intro hx
      rcases List.mem_cons.1 ((h x).2 (by simp [hx])) with e | h'
      · subst e; exact absurd (h2.1 x hx) (by omega)
      · exact h'
/-- sorted -/
def srtL (l : List Int) : List Int := l.mergeSort fun x y => decide (x ≤ y)
theorem srt_len (l : List Int) : (srtL l).length = l.length := List.length_mergeSort l
theorem srt_mem {l : List Int} {x : Int} : x ∈ srtL l ↔ x ∈ l := List.mem_mergeSort
theorem srt_le (l : List Int) : (srtL l).Pairwise (· ≤ ·) :=
  (List.pairwise_mergeSort (le := fun x y : Int => decide (x ≤ y)) (fun a b c h1 h2 => by simp at *; omega) (fun a b => by simp; omega) l).imp fun h => by simpa using h
theorem srt_lt {l : List Int} (h : l.Nodup) : (srtL l).Pairwise (· < ·) := by
  have hn : (srtL l).Nodup := (List.mergeSort_perm l _).nodup_iff.2 h
  exact ((srt_le l).and hn).imp fun ⟨h1, h2⟩ => by omega
theorem sort_eq {l s : List Int} (hs : s.Pairwise (· < ·)) (hn : l.Nodup) (hm : ∀ x, x ∈ l ↔ x ∈ s) : srtL l = s := sorted_ext (srt_lt hn) hs fun x => srt_mem.trans (hm x)
theorem nodup_of_lt {l : List Int} (h : l.Pairwise (· < ·)) : l.Nodup := h.imp fun h => by omega
theorem srt_ris (l : List Int) : risB (srtL l) = decide l.Nodup := by
  by_cases h : l.Nodup
  · rw [ris_of_pw (srt_lt h)]; simp [h]
  · cases hr : risB (srtL l) with
    | false => simp [h]
    | true => exact absurd ((List.mergeSort_perm l _).nodup_iff.1 (nodup_of_lt (pw_of_ris hr))) h

/-- a number put into its place -/
def putL : List Int → Int → List Int
  | [], n => [n]
  | z :: zs, n => if z < n then z :: putL zs n else if z = n then z :: zs else n :: z :: zs
theorem putL_at {zs : List Int} {n : Int} {k : Nat} (hk : k ≤ zs.length) (h1 : ∀ j (h : j < zs.length), j < k → zs[j] < n) (h2 : ∀ (h : k < zs.length), ¬ zs[k] < n) :
    putL zs n = if zs[k]? = some n then zs else zs.take k ++ n :: zs.drop k := by
  induction zs generalizing k with
  | nil => obtain rfl : k = 0 := by simpa using hk
           simp [putL]
  | cons z zs ih =>
    cases k with
    | zero =>
      have h := h2 (by simp)
      have h' : ¬ z < n := by simpa using h
      by_cases e : z = n <;> simp [putL, h', e]
    | succ k =>
      have hz : z < n := by have := h1 0 (by simp) (by omega); simpa using this
      have := ih (k := k) (by simpa using hk) (fun j h hj => by have := h1 (j + 1) (by simp; omega) (by omega); simpa using this) (fun h => by have := h2 (by simp; omega); simpa using this)
      simp only [putL, if_pos hz, this, List.getElem?_cons_succ, List.take_succ_cons, List.drop_succ_cons]
      split <;> simp
theorem putL_mem {zs : List Int} {n x : Int} : x ∈ putL zs n ↔ x ∈ zs ∨ x = n := by
  induction zs with
  | nil => simp [putL]
  | cons z zs ih =>
    unfold putL
    split
    · simp [ih, or_assoc]
    · split
      · rename_i h1 h2
        subst h2
        constructor
        · intro h; exact .inl h
        · rintro (h | rfl)
          · exact h
          · simp
      · simp only [List.mem_cons]
        constructor
        · rintro (h | h | h)
          · exact .inr h
          · exact .inl (.inl h)
          · exact .inl (.inr h)
        · rintro ((h | h) | h)
          · exact .inr (.inl h)
          · exact .inr (.inr h)
          · exact .inl h
theorem putL_pw {zs : List Int} {n : Int} (h : zs.Pairwise (· < ·)) : (putL zs n).Pairwise (· < ·) := by
  induction zs with
  | nil => simp [putL]
  | cons z zs ih =>
    rw [List.pairwise_cons] at h
    unfold putL
    split
    · rename_i hz
      rw [List.pairwise_cons]
      refine ⟨fun x hx => ?_, ih h.2⟩
      rcases putL_mem.1 hx with hx | rfl
      · exact h.1 x hx
      · exact hz
    · split
      · rw [List.pairwise_cons]; exact h
      · rename_i h1 h2
        rw [List.pairwise_cons, List.pairwise_cons]
        refine ⟨fun x hx => ?_, h⟩
        rcases List.mem_cons.1 hx with rfl | hx
        · omega
        · have := h.1 x hx; omega
theorem putL_len (zs : List Int) (n : Int) : (putL zs n).length ≤ zs.length + 1 := by
  induction zs with
  | nil => simp [putL]
  | cons z zs ih =>
    unfold putL
    split
    · simp; omega
    · split <;> simp
theorem sort_put {zs : List Int} {n : Int} (h : zs.Pairwise (· < ·)) (hn : n ∉ zs) : srtL (zs ++ [n]) = putL zs n :=
  sort_eq (putL_pw h) (by
    rw [List.nodup_append]
    refine ⟨nodup_of_lt h, by simp, fun a ha b hb e => ?_⟩
    simp at hb; subst hb; subst e; exact hn ha) fun x => by rw [putL_mem]; simp

/-- how many of the numbers at the front are 0, 1, 2, .. -/
def pfxFrom : List Int → Nat → Nat
  | [], _ => 0
  | z :: zs, i => if z = (i : Int) then 1 + pfxFrom zs (i + 1) else 0
def pfx (zs : List Int) : Nat := pfxFrom zs 0
theorem pfxFrom_at {zs : List Int} {i k : Nat} (hk : k ≤ zs.length) (h1 : ∀ j (h : j < zs.length), j < k → zs[j] = ((i + j : Nat) : Int)) (h2 : ∀ (h : k < zs.length), zs[k] ≠ ((i + k : Nat) : Int)) : pfxFrom zs i = k := by
  induction zs generalizing i k with
  | nil => obtain rfl : k = 0 := by simpa using hk
           rfl
  | cons z zs ih =>
    cases k with
    | zero =>
      have h := h2 (by simp)
      have h' : z ≠ (i : Int) := by simpa using h
      simp [pfxFrom, h']
    | succ k =>
      have hz : z = (i : Int) := by have := h1 0 (by simp) (by omega); simpa using this
      have := ih (i := i + 1) (k := k) (by simpa using hk) (fun j h hj => by have := h1 (j + 1) (by simp; omega) (by omega); simp at this; rw [this]; omega) (fun h => by have := h2 (by simp; omega); simp at this; intro e; exact this (by rw [e]; omega))
      simp only [pfxFrom, if_pos hz, this]
      omega
theorem pfx_at {zs : List Int} {k : Nat} (hk : k ≤ zs.length) (h1 : ∀ j (h : j < zs.length), j < k → zs[j] = (j : Int)) (h2 : ∀ (h : k < zs.length), zs[k] ≠ (k : Int)) : pfx zs = k :=
  pfxFrom_at hk (fun j h hj => by rw [h1 j h hj]; simp) (fun h => by have := h2 h; simpa using this)

/-- the numbers of a valid key book -/
theorem kb_facts {key pages : Int} {zs : List Int} (h : kbB key pages zs = true) : (0 ≤ key ∧ key ≤ 1000000000) ∧ (1 ≤ pages ∧ pages ≤ 60) ∧ zs.Pairwise (· < ·) ∧ (∀ k (_ : k < zs.length), 0 ≤ zs[k] ∧ zs[k] ≤ pages - 1) := by
  simp only [kbB, risinB, Bool.and_eq_true, inB_iff] at h
  exact ⟨h.1, h.2.1, pw_of_ris h.2.2.2, allB_iff.1 h.2.2.1⟩
theorem rise_ge {zs : List Int} (h : zs.Pairwise (· < ·)) (h0 : ∀ k (_ : k < zs.length), 0 ≤ zs[k]) : ∀ k (_ : k < zs.length), (k : Int) ≤ zs[k] := by
  intro k
  induction k with
  | zero => intro hk; exact h0 0 hk
  | succ k ih =>
    intro hk
    have h1 := ih (by omega)
    have h2 := List.pairwise_iff_getElem.1 h k (k + 1) (by omega) hk (by omega)
    omega
theorem rise_le {zs : List Int} {p : Int} (h : zs.Pairwise (· < ·)) (h0 : ∀ k (_ : k < zs.length), zs[k] ≤ p - 1) : ∀ d k (_ : k + d + 1 = zs.length), zs[k] ≤ p - 1 - d := by
  intro d
  induction d with
  | zero => intro k hk; have := h0 k (by omega); omega
  | succ d ih =>
    intro k hk
    have h1 := ih (k + 1) (by omega)
    have h2 := List.pairwise_iff_getElem.1 h k (k + 1) (by omega) (by omega) (by omega)
    omega
theorem kb_len {key pages : Int} {zs : List Int} (h : kbB key pages zs = true) : (zs.length : Int) ≤ pages := by
  obtain ⟨_, hp, hpw, hb⟩ := kb_facts h
  by_cases h0 : zs.length = 0
  · omega
  · have h1 := rise_le (p := pages) hpw (fun k hk => (hb k hk).2) (zs.length - 1) 0 (by omega)
    have h2 := (hb 0 (by omega)).1
    omega
/-- where all pages are used, they are 0, 1, 2, .. -/
theorem kb_full {key pages : Int} {zs : List Int} (h : kbB key pages zs = true) (hl : (zs.length : Int) = pages) : ∀ k (_ : k < zs.length), zs[k] = (k : Int) := by
  obtain ⟨_, hp, hpw, hb⟩ := kb_facts h
  intro k hk
  have h1 := rise_ge hpw (fun k hk => (hb k hk).1) k hk
  have h2 := rise_le (p := pages) hpw (fun k hk => (hb k hk).2) (zs.length - 1 - k) k (by omega)
  omega
/-- the first number that is missing is in no later place -/
theorem pfx_free {zs : List Int} {k : Nat} (hpw : zs.Pairwise (· < ·)) (h0 : ∀ k (_ : k < zs.length), 0 ≤ zs[k]) (hk : k ≤ zs.length) (h1 : ∀ j (h : j < zs.length), j < k → zs[j] = (j : Int)) (h2 : ∀ (h : k < zs.length), zs[k] ≠ (k : Int)) : (k : Int) ∉ zs := by
  intro hm
  obtain ⟨j, hj, e⟩ := List.getElem_of_mem hm
  have hge := rise_ge hpw h0 j hj
  by_cases hjk : j < k
  · have := h1 j hj hjk; omega
  · by_cases e2 : j = k
    · subst e2; exact h2 hj e
    · have h3 := List.pairwise_iff_getElem.1 hpw k j (by omega) hj (by omega)
      have h4 := rise_ge hpw h0 k (by omega)
      have h5 := h2 (by omega)
      omega

def unB (key pages : Int) (zs : List Int) : Bool := kbB key pages zs && decide ((zs.length : Int) ≠ pages)
def unK (key pages : Int) (zs : List Int) : Int := if unB key pages zs then key else 0
def unP (key pages : Int) (zs : List Int) : Int := if unB key pages zs then pages else 0
def unL (key pages : Int) (zs : List Int) : List Int := if unB key pages zs then putL zs (pfx zs) else []
def unV (key pages : Int) (zs : List Int) : Int := if unB key pages zs then (pfx zs : Int) else 0
theorem un_no {key pages : Int} {zs : List Int} (h : unB key pages zs = false) : unK key pages zs = 0 ∧ unP key pages zs = 0 ∧ unL key pages zs = [] ∧ unV key pages zs = 0 := by simp [unK, unP, unL, unV, h]
theorem un_yes {key pages : Int} {zs : List Int} (h : unB key pages zs = true) : unK key pages zs = key ∧ unP key pages zs = pages ∧ unL key pages zs = putL zs (pfx zs) ∧ unV key pages zs = (pfx zs : Int) := by simp [unK, unP, unL, unV, h]
def upB (key pages : Int) (zs : List Int) (page : Int) : Bool := (kbB key pages zs && inB page 0 (pages - 1)) && !hasB zs page
def upK (key pages : Int) (zs : List Int) (page : Int) : Int := if upB key pages zs page then key else 0
def upP (key pages : Int) (zs : List Int) (page : Int) : Int := if upB key pages zs page then pages else 0
def upL (key pages : Int) (zs : List Int) (page : Int) : List Int := if upB key pages zs page then putL zs page else []
theorem up_no {key pages : Int} {zs : List Int} {page : Int} (h : upB key pages zs page = false) : upK key pages zs page = 0 ∧ upP key pages zs page = 0 ∧ upL key pages zs page = [] := by simp [upK, upP, upL, h]
theorem up_yes {key pages : Int} {zs : List Int} {page : Int} (h : upB key pages zs page = true) : upK key pages zs page = key ∧ upP key pages zs page = pages ∧ upL key pages zs page = putL zs page := by simp [upK, upP, upL, h]
end Go.Proofs.Yteajjbfecpffeaa
