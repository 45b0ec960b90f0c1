/-
  Words for memory: a slice of entries that a call has made, as the row of the library's sort; what the sort leaves of it, entry by entry. The conditions are bounds on lengths.
-/
import Derived.Test.YteajjbfecpffeaaStabZ
namespace Go.Proofs.Yteajjbfecpffeaa
open Go.RowKit Go.ChangeShapes Go.WideShapes Go.Sort
set_option linter.unusedVariables false
set_option linter.unusedSimpArgs false
set_option linter.unusedSectionVars false

/-- an entry's row, as an element of the sort -/
theorem EntOwn.elem {w : World} {lo hi : Nat} {e : Ent} {r : List Value} (h : EntOwn w lo hi e r) (j : Nat) : ∃ x : RowT, encT x = r ∧ x.tag = j ∧ x.t = e.time := by
  obtain ⟨u, v, rfl, a, b, _⟩ := h
  obtain ⟨A1, c1, rfl, -, -⟩ := a.rd
  obtain ⟨A2, c2, rfl, -, -⟩ := b.rd
  exact ⟨⟨e.time, e.msg, e.part, A1, e.seen.length, c1, A2, e.shown.length, c2, j⟩, rfl, rfl, rfl⟩
/-- the elements of a slice of entries -/
theorem EntsOwn.elems {w : World} {lo hi : Nat} {es : List Ent} {rows : List (List Value)} (h : EntsOwn w lo hi es rows) :
    ∃ d : Array RowT, d.size = rows.length ∧ ∀ j (hj : j < rows.length), encT d[j]! = rows[j] ∧ d[j]!.tag = j ∧ d[j]!.t = (es[j]'(by rw [← h.len]; exact hj)).time := by
  have hx : ∀ j : Fin rows.length, ∃ x : RowT, encT x = rows[j.val] ∧ x.tag = j.val ∧ x.t = (es[j.val]'(by rw [← h.len]; exact j.isLt)).time := fun j => (h.ent j.val (by rw [← h.len]; exact j.isLt) j.isLt).elem j.val
  refine ⟨Array.ofFn fun j => Classical.choose (hx j), by simp, fun j hj => ?_⟩
  have e : (Array.ofFn fun j => Classical.choose (hx j))[j]! = Classical.choose (hx ⟨j, hj⟩) := by
    rw [getElem!_pos _ j (by simpa using hj)]
    simp
  rw [e]
  exact Classical.choose_spec (hx ⟨j, hj⟩)
/-- they lie in the row -/
theorem OwnR.holdsK {w : World} {lo hi G n c : Nat} {rows : List (List Value)} {d : Array RowT} (ho : OwnR w lo hi 49 5 (.slice (some ⟨G, 0, none⟩) n c) rows) (hn : 0 < rows.length) (hd : d.size = rows.length) (he : ∀ j (hj : j < rows.length), encT d[j]! = rows[j]) :
    HoldsK encT 5 w G 0 d ∧ G < w.heap.size := by
  obtain ⟨A', c', e, -, -, -, hx⟩ := ho.cells
  injection e with e1 e2 e3
  subst e1
  obtain ⟨g, e, -, -, hg, hfr, hc⟩ := hx hn
  injection e with e
  injection e with e
  subst e
  refine ⟨fun t ht => ?_, hg⟩
  rw [size_flatK] at ht
  have h5 : t / 5 < rows.length := by omega
  have hm : t % 5 < 5 := Nat.mod_lt _ (by omega)
  refine ⟨?_, hfr _⟩
  rw [get_flatK _ _ _ _ ht, he _ h5]
  have := hc (t / 5) h5 (t % 5) hm
  rw [show t / 5 * 5 + t % 5 = t by omega] at this
  rw [Nat.zero_add, this]
  have hl : rows[t / 5].length = 5 := by rw [← he _ h5]; rfl
  rw [getElem!_pos _ _ (by omega), List.getElem?_eq_getElem (by omega)]
  rfl
theorem putCells_size (enc : Value → Value) (off : Nat) (F c : Array Value) : (putCells enc off F c).size = c.size := by simp [putCells]
/-- what the sort leaves: the rows in the new order, all other blocks as they were -/
theorem sortedRows {w w' : World} {lo hi G n c : Nat} {rows : List (List Value)} {d' : Array RowT} (ho : OwnR w lo hi 49 5 (.slice (some ⟨G, 0, none⟩) n c) rows) (hd : d'.size = rows.length) (S : SWK encT 5 w G 0 d' w') :
    OwnR w' lo w'.heap.size 49 5 (.slice (some ⟨G, 0, none⟩) n c) (d'.toList.map encT) ∧ (∀ k, k < w.heap.size → k ≠ G → w'.heap[k]? = w.heap[k]?) ∧ lo ≤ G ∧ Below lo w w' := by
  obtain ⟨m, os, rfl⟩ := S
  rcases ho.1.2 with ⟨e, _⟩ | ⟨g, cap, cur, e, hb, hg, hnc, hcm, hsz, htk⟩
  · cases e
  · injection e with e1 e2 e3
    injection e1 with e1
    injection e1 with e1
    subst e1 e2 e3
    have hGl : G < w.heap.size := (Array.getElem?_eq_some_iff.1 hg).1
    have hold : ∀ k, k < w.heap.size → k ≠ G → (sortWorldK encT 5 w G 0 m d' os).heap[k]? = w.heap[k]? := by
      intro k hk hne
      unfold sortWorldK
      rw [heap_grow_old _ _ (by rw [size_putRowK]; exact hk)]
      show (mapBlock (Sort.ahead w m) G _).heap[k]? = _
      simp [mapBlock, Array.getElem?_modify, Ne.symm hne, Sort.ahead]
    have hnew : (sortWorldK encT 5 w G 0 m d' os).heap[G]? = some (.cells (putCells id 0 (flatK encT 5 d') cur) 49 (0, 0)) := by
      unfold sortWorldK
      rw [heap_grow_old _ _ (by rw [size_putRowK]; exact hGl)]
      show (mapBlock (Sort.ahead w m) G _).heap[G]? = _
      have hg' : (Sort.ahead w m).heap[G]? = some (.cells cur 49 (0, 0)) := hg
      simp [mapBlock, Array.getElem?_modify, onCells]
      exact ⟨_, hg', rfl⟩
    have hsize : w.heap.size ≤ (sortWorldK encT 5 w G 0 m d' os).heap.size := size_sortWorldK_c encT 5 w G 0 m d' os
    have hfl : (d'.toList.map encT).flatten.length = d'.size * 5 := by
      have := flat_len (rows := d'.toList.map encT) (sz := 5) (fun r hr => by obtain ⟨x, _, rfl⟩ := List.mem_map.1 hr; rfl)
      simpa using this
    refine ⟨⟨⟨by rw [hfl]; simp, .inr ⟨G, c, _, ?_, hb, hnew, ?_, hcm, by rw [putCells_size]; exact hsz, ?_⟩⟩, fun r hr => by obtain ⟨x, _, rfl⟩ := List.mem_map.1 hr; rfl, fun k hk => ?_⟩, hold, hb, ?_⟩
    · simp [hd]
    · simp [hd]; exact hnc
    · -- the cells of the new row
      have hcs : d'.size * 5 ≤ cur.size := by rw [hsz, hd]; exact Nat.mul_le_mul_right _ hnc
      apply List.ext_getElem?
      intro t
      rw [List.getElem?_take]
      have hlen : (d'.toList.map encT).length * 5 = d'.size * 5 := by simp
      rw [hlen]
      by_cases ht : t < d'.size * 5
      · rw [if_pos ht]
        have h5 : t / 5 < d'.size := by omega
        have hm : t % 5 < 5 := Nat.mod_lt _ (by omega)
        have h1 := flat_at (rows := d'.toList.map encT) (sz := 5) (fun r hr => by obtain ⟨x, _, rfl⟩ := List.mem_map.1 hr; rfl) (t / 5) (t % 5) (by simpa using h5) hm
        rw [show t / 5 * 5 + t % 5 = t by omega] at h1
        rw [h1, Array.getElem?_toList]
        simp only [putCells, Array.getElem?_mapIdx]
        rw [Array.getElem?_eq_getElem (by omega), Option.map_some, if_pos ⟨by omega, by rw [size_flatK]; omega⟩, Nat.sub_zero, get_flatK _ _ _ _ ht]
        simp only [id_eq, List.getElem_map, Array.getElem_toList]
        rw [getElem!_pos d' _ h5, List.getElem?_eq_getElem (by show t % 5 < 5; exact hm), getElem!_pos _ _ (by show t % 5 < 5; exact hm)]
      · rw [if_neg ht, List.getElem?_eq_none (by rw [hfl]; omega)]
    · simp [Value.ownBlock] at hk; omega
    · refine ⟨rfl, rfl, rfl, hsize, fun k hk => hold k (by omega) (by omega)⟩
end Go.Proofs.Yteajjbfecpffeaa
