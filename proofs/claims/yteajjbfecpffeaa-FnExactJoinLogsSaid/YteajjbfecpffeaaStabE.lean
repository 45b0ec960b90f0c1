/-
  The library's stable sort over the entries of two logs, one behind the other: they are joined by time. The conditions are bounds on lengths.
-/
import Derived.Test.YteajjbfecpffeaaStabM
import Derived.Test.YteajjbfecpffeaaAppR
namespace Go.Proofs.Yteajjbfecpffeaa
open Go.RowKit Go.ChangeShapes Go.WideShapes Go.Sort
set_option linter.unusedVariables false
set_option linter.unusedSimpArgs false
set_option linter.unusedSectionVars false

/-- in order of time -/
def timed (es : List Ent) : Prop := ∀ i j (hi : i < es.length) (hj : j < es.length), i < j → es[i].time ≤ es[j].time
/-- by time, then by where it stood -/
def leX (x y : RowT) : Bool := decide (x.t < y.t ∨ (x.t = y.t ∧ x.tag ≤ y.tag))
theorem leX_trans (x y z : RowT) (h1 : leX x y = true) (h2 : leX y z = true) : leX x z = true := by
  simp only [leX, decide_eq_true_eq] at *; omega
theorem leX_total (x y : RowT) : (leX x y || leX y x) = true := by
  simp only [leX, Bool.or_eq_true, decide_eq_true_eq]; omega
theorem leX_bef {x y : RowT} (h : leX x y = true) (hne : x.tag ≠ y.tag) : bef (ltOf cfT) RowT.tag x y := by
  simp only [leX, decide_eq_true_eq] at h
  unfold bef
  rw [cfT_lt, cfT_lt]
  simp only [decide_eq_true_eq, decide_eq_false_iff_not]
  omega
section
variable {a b : List Ent} {d d' : Array RowT} {n : Nat}
/-- what the elements say of the entries -/
def Says (a b : List Ent) (d : Array RowT) : Prop := d.size = a.length + b.length ∧ ∀ j (hj : j < (a ++ b).length), d[j]!.tag = j ∧ d[j]!.t = (a ++ b)[j].time
theorem Says.mem (h : Says a b d) {x : RowT} (hx : x ∈ d.toList) : ∃ j, ∃ hj : j < (a ++ b).length, x = d[j]! ∧ x.tag = j ∧ x.t = (a ++ b)[j].time ∧ eAt (a ++ b) x.tag = (a ++ b)[j] := by
  obtain ⟨j, hj, rfl⟩ := List.getElem_of_mem hx
  have hj2 : j < d.size := by simpa using hj
  have hj' : j < (a ++ b).length := by rw [List.length_append, ← h.1]; exact hj2
  have e : d.toList[j] = d[j]! := by rw [getElem!_pos d j hj2]; simp
  obtain ⟨h1, h2⟩ := h.2 j hj'
  rw [e]
  exact ⟨j, hj', rfl, h1, h2, by rw [h1]; exact eAt_get hj'⟩
theorem Says.tags (h : Says a b d) : d.toList.Pairwise fun x y => x.tag ≠ y.tag := by
  rw [List.pairwise_iff_getElem]
  intro i j hi hj hij
  have hi2 : i < d.size := by simpa using hi
  have hj2 : j < d.size := by simpa using hj
  have e1 : d.toList[i] = d[i]! := by rw [getElem!_pos d i hi2]; simp
  have e2 : d.toList[j] = d[j]! := by rw [getElem!_pos d j hj2]; simp
  rw [e1, e2, (h.2 i (by rw [List.length_append, ← h.1]; exact hi2)).1, (h.2 j (by rw [List.length_append, ← h.1]; exact hj2)).1]
  omega
theorem Says.part (h : Says a b d) (ha : timed a) (hb : timed b) : (d.toList.take a.length).Pairwise (fun x y => leX x y = true) ∧ (d.toList.drop a.length).Pairwise (fun x y => leX x y = true) := by
  have hl := h.1
  have g : ∀ i (hi : i < d.toList.length), d.toList[i] = d[i]! := fun i hi => by rw [getElem!_pos d i (by simpa using hi)]; simp
  refine ⟨?_, ?_⟩
  · rw [List.pairwise_iff_getElem]
    intro i j hi hj hij
    simp only [List.length_take, Array.length_toList] at hi hj
    rw [List.getElem_take, List.getElem_take, g, g]
    obtain ⟨t1, t2⟩ := h.2 i (by rw [List.length_append]; omega)
    obtain ⟨u1, u2⟩ := h.2 j (by rw [List.length_append]; omega)
    have := ha i j (by omega) (by omega) hij
    rw [List.getElem_append_left (by omega)] at t2 u2
    simp only [leX, decide_eq_true_eq, t1, t2, u1, u2]
    omega
  · rw [List.pairwise_iff_getElem]
    intro i j hi hj hij
    simp only [List.length_drop, Array.length_toList] at hi hj
    rw [List.getElem_drop, List.getElem_drop, g, g]
    obtain ⟨t1, t2⟩ := h.2 (a.length + i) (by rw [List.length_append]; omega)
    obtain ⟨u1, u2⟩ := h.2 (a.length + j) (by rw [List.length_append]; omega)
    have := hb i j (by omega) (by omega) hij
    rw [List.getElem_append_right (by omega)] at t2 u2
    simp only [Nat.add_sub_cancel_left] at t2 u2
    simp only [leX, decide_eq_true_eq, t1, t2, u1, u2]
    omega
/-- the sorted elements are the joined entries -/
theorem Says.sorted (h : Says a b d) (ha : timed a) (hb : timed b) (hn : n = d.size) (hp : PermIn 0 n d d') (ho : Ord (ltOf cfT) RowT.tag 0 n d') : d'.toList.Perm d.toList ∧ d'.toList.map (fun x => eAt (a ++ b) x.tag) = jM a b := by
  subst hn
  have hl := h.1
  have hperm : d'.toList.Perm d.toList := by
    have h3 := hp.2.2
    have e1 : d'.extract 0 d.size = d' := by rw [← hp.1]; exact Array.extract_size
    rwa [e1, Array.extract_size] at h3
  refine ⟨hperm, ?_⟩
  have hta : ∀ x ∈ d.toList.take a.length, x.tag < a.length := by
    intro x hx
    obtain ⟨j, hj, rfl⟩ := List.getElem_of_mem hx
    simp only [List.length_take, Array.length_toList] at hj
    rw [List.getElem_take]
    have e : d.toList[j]'(by simp; omega) = d[j]! := by rw [getElem!_pos d j (by omega)]; simp
    rw [e, (h.2 j (by rw [List.length_append]; omega)).1]; omega
  have htb : ∀ x ∈ d.toList.drop a.length, a.length ≤ x.tag := by
    intro x hx
    obtain ⟨j, hj, rfl⟩ := List.getElem_of_mem hx
    simp only [List.length_drop, Array.length_toList] at hj
    rw [List.getElem_drop]
    have e : d.toList[a.length + j]'(by simp; omega) = d[a.length + j]! := by rw [getElem!_pos d _ (by omega)]; simp
    rw [e, (h.2 (a.length + j) (by rw [List.length_append]; omega)).1]; omega
  have hcat : d.toList.take a.length ++ d.toList.drop a.length = d.toList := List.take_append_drop _ _
  have hmx : List.merge (d.toList.take a.length) (d.toList.drop a.length) (fun x y => decide (x.t ≤ y.t)) = List.merge (d.toList.take a.length) (d.toList.drop a.length) leX := by
    have := List.map_merge (f := id) (r := fun x y : RowT => decide (x.t ≤ y.t)) (s := leX) (l := d.toList.take a.length) (l' := d.toList.drop a.length) (fun x hx y hy => by
      have h1 := hta x hx
      have h2 := htb y hy
      unfold leX
      simp only [id]
      rw [decide_eq_decide]
      omega)
    simpa using this
  have hTp : (List.merge (d.toList.take a.length) (d.toList.drop a.length) leX).Perm d.toList := by
    have := List.merge_perm_append leX (xs := d.toList.take a.length) (ys := d.toList.drop a.length)
    rwa [hcat] at this
  have hTs : (List.merge (d.toList.take a.length) (d.toList.drop a.length) leX).Pairwise (bef (ltOf cfT) RowT.tag) := by
    have h1 := List.pairwise_merge leX_trans leX_total _ _ (h.part ha hb).1 (h.part ha hb).2
    have h2 := (hTp.pairwise_iff (fun {x y} (e : x.tag ≠ y.tag) => Ne.symm e)).2 h.tags
    exact (h1.and h2).imp fun e => leX_bef e.1 e.2
  have hpair : d'.toList.Pairwise (bef (ltOf cfT) RowT.tag) := by
    have ho2 : Ord (ltOf cfT) RowT.tag 0 d'.size d' := by rw [hp.1]; exact ho
    exact ho2.pairwise
  have heq := Ord.unique cfT_swo (hperm.trans hTp.symm) hpair hTs
  rw [heq, ← hmx, List.map_merge (s := fun x y => decide (x.time ≤ y.time)) (fun x hx y hy => by
    obtain ⟨j, hj, _, _, e1, e2⟩ := h.mem (List.mem_of_mem_take hx)
    obtain ⟨k, hk, _, _, f1, f2⟩ := h.mem (List.mem_of_mem_drop hy)
    rw [e1, f1, e2, f2])]
  unfold jM
  congr 1
  · apply List.ext_getElem
    · simp; omega
    · intro j h1 h2
      simp only [List.length_map, List.length_take, Array.length_toList] at h1
      rw [List.getElem_map, List.getElem_take]
      have e : d.toList[j]'(by simp; omega) = d[j]! := by rw [getElem!_pos d j (by omega)]; simp
      have hj : j < (a ++ b).length := by rw [List.length_append]; omega
      rw [e, (h.2 j hj).1, eAt_get hj, List.getElem_append_left (by omega)]
  · apply List.ext_getElem
    · simp; omega
    · intro j h1 h2
      simp only [List.length_map, List.length_drop, Array.length_toList] at h1
      rw [List.getElem_map, List.getElem_drop]
      have e : d.toList[a.length + j]'(by simp; omega) = d[a.length + j]! := by rw [getElem!_pos d _ (by omega)]; simp
      have hj : a.length + j < (a ++ b).length := by rw [List.length_append]; omega
      rw [e, (h.2 _ hj).1, eAt_get hj, List.getElem_append_right (by omega)]
      congr 1; omega
end
/-- entries of two logs, one behind the other, in a slice that a call has made, behind the stable sort -/
theorem sortStable_ents (a b : List Ent) {lo hi G n c : Nat} {rows : List (List Value)} (w : World) (ho : OwnR w lo hi 49 5 (.slice (some ⟨G, 0, none⟩) n c) rows) (he : EntsOwn w lo hi (a ++ b) rows) (ha : timed a) (hb : timed b) (hn : 0 < rows.length) (hl : rows.length ≤ 1000000000) (hh : hi ≤ w.heap.size) :
    Calls Try.prog 48 #[.slice (some ⟨G, 0, none⟩) n c, .func (.func 49) #[] #[]] w fun e w' => e = .returned (.tuple #[]) ∧ ∃ rows', OwnR w' lo w'.heap.size 49 5 (.slice (some ⟨G, 0, none⟩) n c) rows' ∧ EntsOwn w' lo w'.heap.size (jM a b) rows' ∧ Below lo w w' := by
  obtain ⟨d, hd, hx⟩ := he.elems
  have hnr : n = rows.length := by
    obtain ⟨A', c', e, _⟩ := ho.cells
    injection e
  have hlen := he.len
  obtain ⟨hH, hG⟩ := ho.holdsK hn hd fun j hj => (hx j hj).1
  have hS : Says a b d := ⟨by rw [hd, hlen, List.length_append], fun j hj => by
    have hj' : j < rows.length := by rw [hlen]; exact hj
    exact (hx j hj').2⟩
  refine (sortStable_row G c n d w hH hG (by omega) (by omega) (fun i hi => (hx i (by omega)).2.1)).mono ?_
  rintro e w' ⟨hee, d', hp, hor, S⟩
  refine ⟨hee, d'.toList.map encT, ?_⟩
  have hd' : d'.size = rows.length := by rw [hp.1, hd]
  obtain ⟨h1, h2, h3, h4⟩ := sortedRows ho hd' S
  obtain ⟨hperm, hmap⟩ := hS.sorted ha hb (by omega) hp hor
  refine ⟨h1, ?_, h4⟩
  obtain ⟨curG, hcurG⟩ := ho.blockT G rfl
  have hki : KeepI w w' := fun k cs hk => h2 k (Array.getElem?_eq_some_iff.1 hk).1 (fun e => by
    subst e
    rw [hcurG] at hk
    injection hk with hk
    injection hk with _ hk _
    exact absurd hk (by decide))
  rw [← hmap]
  have hrows : d.toList.map encT = rows := by
    apply List.ext_getElem
    · simp [hd]
    · intro j q1 q2
      rw [List.getElem_map]
      have e : d.toList[j]'(by simpa using q1) = d[j]! := by rw [getElem!_pos d j (by simpa using q1)]; simp
      rw [e, (hx j q2).1]
  refine ⟨by simp, fun j q1 q2 => ?_, ?_⟩
  · rw [List.getElem_map, List.getElem_map]
    have hjd : j < d'.toList.length := by simpa using q1
    obtain ⟨k, hk, e1, e2, e3, e4⟩ := hS.mem (hperm.mem_iff.1 (List.getElem_mem hjd))
    have hk' : k < rows.length := by rw [hlen]; exact hk
    have e5 : encT d'.toList[j] = rows[k] := by rw [e1]; exact (hx k hk').1
    rw [e4, e5]
    exact ((he.ent k hk hk').keepI hki).mono (Nat.le_refl _) (Nat.le_trans hh h4.size)
  · have hpr : (d'.toList.map encT).Perm rows := by rw [← hrows]; exact hperm.map _
    exact (hpr.pairwise_iff fun h => DjR.sy h).2 he.dj
end Go.Proofs.Yteajjbfecpffeaa
