/-
  Contracts and plain laws that the walk uses, several texts in one. The conditions are named ahead of each.
-/
import Derived.Test.YtjhbffndiaggmaaGreatDoorBL50
import Derived.Test.YtjhbffndiaggmaaGreatDoorShelfJ
import Derived.Test.YtjhbffndiaggmaaGreatDoorBL20
import Derived.Test.YtjhbffndiaggmaaGreatDoorBL22
import Derived.Test.YtjhbffndiaggmaaGreatDoorBL24
import Derived.Test.YtjhbffndiaggmaaGreatDoorBL26

/-
  The library's stable sort at this program: entries in a slice that a call has made are put in order of time, those of equal times as they stood. The conditions are bounds on lengths.
-/
namespace Go.Proofs.YtjhbffndiaggmaaGreatDoor
open Go.RowKit Go.ChangeShapes Go.WideShapes Go.Sort
set_option linter.unusedVariables false
set_option linter.unusedSimpArgs false
set_option linter.unusedSectionVars false

/-! ### the closure's order -/
def cmpI (a b : Int) : Int := if a < b then -1 else if b < a then 1 else 0
def cfT (x y : RowT) : Int := cmpI x.t y.t
theorem cfT_lt (x y : RowT) : ltOf cfT x y = decide (x.t < y.t) := by
  unfold ltOf cfT cmpI
  by_cases h : x.t < y.t
  · simp [h]
  · by_cases h2 : y.t < x.t
    · simp [h, h2]
    · simp [h, h2]
theorem cfT_swo : SWO (ltOf cfT) := by
  refine ⟨fun x => ?_, fun x y z h1 h2 => ?_, fun x y z h1 h2 => ?_⟩
  · simp [cfT_lt]
  · simp [cfT_lt] at *; omega
  · simp [cfT_lt] at *; omega
theorem isNaN_v (x : Int) (w : World) : Calls Tryz.prog 170 #[.int .i64 x] w fun e w' => e = .returned (.bool false) ∧ w = w' := by
  go_enter Tryz.func170, Tryz.ntmps170
  go_wp2_with fail
  go_ret
  exact ⟨by simp, rfl⟩
theorem compare_v (x y : Int) (w : World) : Calls Tryz.prog 140 #[.int .i64 x, .int .i64 y] w fun e w' => e = .returned (.int .i64 (cmpI x y)) ∧ w = w' := by
  have key : ∀ z, cmpI x y = z → Calls Tryz.prog 140 #[.int .i64 x, .int .i64 y] w fun e w' => e = .returned (.int .i64 z) ∧ w = w' := by
    intro z hz
    have hzH := Lib.hid hz
    clear hz
    by_cases h1 : x < y
    · go_enter Tryz.func140, Tryz.ntmps140
      go_wp2_with fail
      (with_reducible refine (isNaN_v x _).mono ?_)
      rintro e w1 ⟨rfl, rfl⟩
      go_wp2_with fail
      (with_reducible refine (isNaN_v y _).mono ?_)
      rintro e w1 ⟨rfl, rfl⟩
      go_wp2_with fail
      go_ret
      exact ⟨by rw [← hzH.out]; simp [cmpI, h1], rfl⟩
    · by_cases h2 : y < x
      · go_enter Tryz.func140, Tryz.ntmps140
        go_wp2_with fail
        (with_reducible refine (isNaN_v x _).mono ?_)
        rintro e w1 ⟨rfl, rfl⟩
        go_wp2_with fail
        (with_reducible refine (isNaN_v y _).mono ?_)
        rintro e w1 ⟨rfl, rfl⟩
        go_wp2_with fail
        go_ret
        exact ⟨by rw [← hzH.out]; simp [cmpI, h1, h2], rfl⟩
      · go_enter Tryz.func140, Tryz.ntmps140
        go_wp2_with fail
        (with_reducible refine (isNaN_v x _).mono ?_)
        rintro e w1 ⟨rfl, rfl⟩
        go_wp2_with fail
        (with_reducible refine (isNaN_v y _).mono ?_)
        rintro e w1 ⟨rfl, rfl⟩
        go_wp2_with fail
        go_ret
        exact ⟨by rw [← hzH.out]; unfold cmpI; rw [if_neg (by omega), if_neg (by omega)]; rfl, rfl⟩
  exact key _ rfl
/-- JoinLogs's closure, in whatever world: two blocks are laid -/
theorem joinClo_any (x y : RowT) (W : World) : Calls Tryz.prog 139 #[.agg (encT x).toArray, .agg (encT y).toArray] W fun e w' => e = .returned (.int .i64 (cfT x y)) ∧ ∃ q os', w' = grow (W.drewN q) os' := by
  have hcon := fun W' => compare_v x.t y.t W'
  have hr : ∃ r, cfT x y = r := ⟨_, rfl⟩
  obtain ⟨r, hr⟩ := hr
  have hr2 : cmpI x.t y.t = r := hr
  rw [hr]
  rw [hr2] at hcon
  clear hr hr2
  have ex : (encT x).toArray = #[.int .i64 x.t, .int .i64 x.m, .int .i64 x.p, .slice x.A1 x.n1 x.c1, .slice x.A2 x.n2 x.c2] := rfl
  have ey : (encT y).toArray = #[.int .i64 y.t, .int .i64 y.m, .int .i64 y.p, .slice y.A1 y.n1 y.c1, .slice y.A2 y.n2 y.c2] := rfl
  rw [ex, ey]
  clear ex ey
  go_enter Tryz.func139, Tryz.ntmps139
  go_wp2_with fail
  (with_reducible refine (hcon _).mono ?_)
  rintro e w1 ⟨rfl, rfl⟩
  go_wp2_with fail
  go_ret
  exact ⟨rfl, 0, _, by rw [alloc_eq_grow, alloc_eq_grow, grow_grow]; rfl⟩
theorem joinClo_lays (blk off size : Nat) (w : World) : CmpLays Tryz.prog 139 #[] encT 5 cfT blk off size w := fun _ _ _ _ x y => by simpa using joinClo_any x y _
/-- the stable sort, over a row of entries -/
theorem sortStable_row (G c sz : Nat) (d0 : Array RowT) (w : World) (hH : HoldsK encT 5 w G 0 d0) (hG : G < w.heap.size) (hz : sz = d0.size) (hsz : d0.size ≤ 1000000000) (htag : ∀ i, i < sz → d0[i]!.tag = i) :
    Calls Tryz.prog 138 #[.slice (some ⟨G, 0, none⟩) sz c, .func (.func 139) #[] #[]] w fun e w' => e = .returned (.tuple #[]) ∧ ∃ d', PermIn 0 sz d0 d' ∧ Ord (ltOf cfT) RowT.tag 0 sz d' ∧ SWK encT 5 w G 0 d' w' := by
  have R : RowK encT 5 w G 0 d0 := ⟨encT_len, encT_one, hH, hG⟩
  have eg : ∀ args w, (callFunc 139 args).run Tryz.prog w = .ok (.enter 139 args) w := enters_of Tryz.func139 (by kernel_rfl) rfl
  refine sortStable_P sortP encT cfT cfT_swo 139 G 0 c sz d0 w w R hz (by omega) htag (SWK.start hH) Tryz.func138 Tryz.func169 Tryz.func197 Tryz.func198 ?_ ?_
  · intro a b dk W hab hb hs S
    have h := AnyQ.insertionSortCmpFunc Tryz.laysIns 5 Tryz.isAgg74 Tryz.sizeOf74 encT encT_len encT_one cfT 139 #[] G 0 c a b dk W eg (joinClo_lays _ _ _ _) (S.holds hG hH hs) (S.lt hG) hab hb (by omega)
    rw [show dk.size = sz by omega] at h
    refine h.mono ?_
    rintro e w' ⟨he, n, os, hw⟩
    have hp := insertionSort_holds (lt := ltOf cfT) cfT_swo dk a b hab hb
    exact ⟨he, by rw [hw]; exact S.on hG n _ os hp.1.1⟩
  · intro a m b mz dk W hmz h1 h2 h3 h4 S o1 o2 o3
    subst hmz
    exact symMerge_P sortP Tryz.func236 Tryz.func223 Tryz.func198 encT cfT cfT_swo 139 eg G 0 c sz d0 w (joinClo_lays _ _ _ _) R hz (by omega) (b - a) a m b dk W (Nat.le_refl _) h1 h2 h3 h4 S o1 o2 o3
end Go.Proofs.YtjhbffndiaggmaaGreatDoor

/-
  Words for memory: a slice of entries that a call has made, as the row of the library's sort; what the sort leaves of it, entry by entry. The conditions are bounds on lengths.
-/
namespace Go.Proofs.YtjhbffndiaggmaaGreatDoor
open Go.RowKit Go.ChangeShapes Go.WideShapes Go.Sort
set_option linter.unusedVariables false
set_option linter.unusedSimpArgs false
set_option linter.unusedSectionVars false

/-- an entry's row, as an element of the sort -/
theorem EntOwn.elem {w : World} {lo hi : Nat} {e : Ent} {r : List Value} (h : EntOwn w lo hi e r) (j : Nat) : ∃ x : RowT, encT x = r ∧ x.tag = j ∧ x.t = e.time := by
  obtain ⟨u, v, rfl, a, b, _⟩ := h
  obtain ⟨A1, c1, rfl, -, -⟩ := a.rd
  obtain ⟨A2, c2, rfl, -, -⟩ := b.rd
  exact ⟨⟨e.time, e.msg, e.part, A1, e.seen.length, c1, A2, e.shown.length, c2, j⟩, rfl, rfl, rfl⟩
/-- the elements of a slice of entries -/
theorem EntsOwn.elems {w : World} {lo hi : Nat} {es : List Ent} {rows : List (List Value)} (h : EntsOwn w lo hi es rows) :
    ∃ d : Array RowT, d.size = rows.length ∧ ∀ j (hj : j < rows.length), encT d[j]! = rows[j] ∧ d[j]!.tag = j ∧ d[j]!.t = (es[j]'(by rw [← h.len]; exact hj)).time := by
  have hx : ∀ j : Fin rows.length, ∃ x : RowT, encT x = rows[j.val] ∧ x.tag = j.val ∧ x.t = (es[j.val]'(by rw [← h.len]; exact j.isLt)).time := fun j => (h.ent j.val (by rw [← h.len]; exact j.isLt) j.isLt).elem j.val
  refine ⟨Array.ofFn fun j => Classical.choose (hx j), by simp, fun j hj => ?_⟩
  have e : (Array.ofFn fun j => Classical.choose (hx j))[j]! = Classical.choose (hx ⟨j, hj⟩) := by
    rw [getElem!_pos _ j (by simpa using hj)]
    simp
  rw [e]
  exact Classical.choose_spec (hx ⟨j, hj⟩)
/-- they lie in the row -/
theorem OwnR.holdsK {w : World} {lo hi G n c : Nat} {rows : List (List Value)} {d : Array RowT} (ho : OwnR w lo hi 74 5 (.slice (some ⟨G, 0, none⟩) n c) rows) (hn : 0 < rows.length) (hd : d.size = rows.length) (he : ∀ j (hj : j < rows.length), encT d[j]! = rows[j]) :
    HoldsK encT 5 w G 0 d ∧ G < w.heap.size := by
  obtain ⟨A', c', e, -, -, -, hx⟩ := ho.cells
  injection e with e1 e2 e3
  subst e1
  obtain ⟨g, e, -, -, hg, hfr, hc⟩ := hx hn
  injection e with e
  injection e with e
  subst e
  refine ⟨fun t ht => ?_, hg⟩
  rw [size_flatK] at ht
  have h5 : t / 5 < rows.length := by omega
  have hm : t % 5 < 5 := Nat.mod_lt _ (by omega)
  refine ⟨?_, hfr _⟩
  rw [get_flatK _ _ _ _ ht, he _ h5]
  have := hc (t / 5) h5 (t % 5) hm
  rw [show t / 5 * 5 + t % 5 = t by omega] at this
  rw [Nat.zero_add, this]
  have hl : rows[t / 5].length = 5 := by rw [← he _ h5]; rfl
  rw [getElem!_pos _ _ (by omega), List.getElem?_eq_getElem (by omega)]
  rfl
theorem putCells_size (enc : Value → Value) (off : Nat) (F c : Array Value) : (putCells enc off F c).size = c.size := by simp [putCells]
/-- what the sort leaves: the rows in the new order, all other blocks as they were -/
theorem sortedRows {w w' : World} {lo hi G n c : Nat} {rows : List (List Value)} {d' : Array RowT} (ho : OwnR w lo hi 74 5 (.slice (some ⟨G, 0, none⟩) n c) rows) (hd : d'.size = rows.length) (S : SWK encT 5 w G 0 d' w') :
    OwnR w' lo w'.heap.size 74 5 (.slice (some ⟨G, 0, none⟩) n c) (d'.toList.map encT) ∧ (∀ k, k < w.heap.size → k ≠ G → w'.heap[k]? = w.heap[k]?) ∧ lo ≤ G ∧ Below lo w w' := by
  obtain ⟨m, os, rfl⟩ := S
  rcases ho.1.2 with ⟨e, _⟩ | ⟨g, cap, cur, e, hb, hg, hnc, hcm, hsz, htk⟩
  · cases e
  · injection e with e1 e2 e3
    injection e1 with e1
    injection e1 with e1
    subst e1 e2 e3
    have hGl : G < w.heap.size := (Array.getElem?_eq_some_iff.1 hg).1
    have hold : ∀ k, k < w.heap.size → k ≠ G → (sortWorldK encT 5 w G 0 m d' os).heap[k]? = w.heap[k]? := by
      intro k hk hne
      unfold sortWorldK
      rw [heap_grow_old _ _ (by rw [size_putRowK]; exact hk)]
      show (mapBlock (Sort.ahead w m) G _).heap[k]? = _
      simp [mapBlock, Array.getElem?_modify, Ne.symm hne, Sort.ahead]
    have hnew : (sortWorldK encT 5 w G 0 m d' os).heap[G]? = some (.cells (putCells id 0 (flatK encT 5 d') cur) 74 (0, 0)) := by
      unfold sortWorldK
      rw [heap_grow_old _ _ (by rw [size_putRowK]; exact hGl)]
      show (mapBlock (Sort.ahead w m) G _).heap[G]? = _
      have hg' : (Sort.ahead w m).heap[G]? = some (.cells cur 74 (0, 0)) := hg
      simp [mapBlock, Array.getElem?_modify, onCells]
      exact ⟨_, hg', rfl⟩
    have hsize : w.heap.size ≤ (sortWorldK encT 5 w G 0 m d' os).heap.size := size_sortWorldK_c encT 5 w G 0 m d' os
    have hfl : (d'.toList.map encT).flatten.length = d'.size * 5 := by
      have := flat_len (rows := d'.toList.map encT) (sz := 5) (fun r hr => by obtain ⟨x, _, rfl⟩ := List.mem_map.1 hr; rfl)
      simpa using this
    refine ⟨⟨⟨by rw [hfl]; simp, .inr ⟨G, c, _, ?_, hb, hnew, ?_, hcm, by rw [putCells_size]; exact hsz, ?_⟩⟩, fun r hr => by obtain ⟨x, _, rfl⟩ := List.mem_map.1 hr; rfl, fun k hk => ?_⟩, hold, hb, ?_⟩
    · simp [hd]
    · simp [hd]; exact hnc
    · -- the cells of the new row
      have hcs : d'.size * 5 ≤ cur.size := by rw [hsz, hd]; exact Nat.mul_le_mul_right _ hnc
      apply List.ext_getElem?
      intro t
      rw [List.getElem?_take]
      have hlen : (d'.toList.map encT).length * 5 = d'.size * 5 := by simp
      rw [hlen]
      by_cases ht : t < d'.size * 5
      · rw [if_pos ht]
        have h5 : t / 5 < d'.size := by omega
        have hm : t % 5 < 5 := Nat.mod_lt _ (by omega)
        have h1 := flat_at (rows := d'.toList.map encT) (sz := 5) (fun r hr => by obtain ⟨x, _, rfl⟩ := List.mem_map.1 hr; rfl) (t / 5) (t % 5) (by simpa using h5) hm
        rw [show t / 5 * 5 + t % 5 = t by omega] at h1
        rw [h1, Array.getElem?_toList]
        simp only [putCells, Array.getElem?_mapIdx]
        rw [Array.getElem?_eq_getElem (by omega), Option.map_some, if_pos ⟨by omega, by rw [size_flatK]; omega⟩, Nat.sub_zero, get_flatK _ _ _ _ ht]
        simp only [id_eq, List.getElem_map, Array.getElem_toList]
        rw [getElem!_pos d' _ h5, List.getElem?_eq_getElem (by show t % 5 < 5; exact hm), getElem!_pos _ _ (by show t % 5 < 5; exact hm)]
      · rw [if_neg ht, List.getElem?_eq_none (by rw [hfl]; omega)]
    · simp [Value.ownBlock] at hk; omega
    · refine ⟨rfl, rfl, rfl, hsize, fun k hk => hold k (by omega) (by omega)⟩
end Go.Proofs.YtjhbffndiaggmaaGreatDoor

/-
  The library's stable sort over the entries of two logs, one behind the other: they are joined by time. The conditions are bounds on lengths.
-/
namespace Go.Proofs.YtjhbffndiaggmaaGreatDoor
open Go.RowKit Go.ChangeShapes Go.WideShapes Go.Sort
set_option linter.unusedVariables false
set_option linter.unusedSimpArgs false
set_option linter.unusedSectionVars false

/-- in order of time -/
def timed (es : List Ent) : Prop := ∀ i j (hi : i < es.length) (hj : j < es.length), i < j → es[i].time ≤ es[j].time
/-- by time, then by where it stood -/
def leX (x y : RowT) : Bool := decide (x.t < y.t ∨ (x.t = y.t ∧ x.tag ≤ y.tag))
theorem leX_trans (x y z : RowT) (h1 : leX x y = true) (h2 : leX y z = true) : leX x z = true := by
  simp only [leX, decide_eq_true_eq] at *; omega
theorem leX_total (x y : RowT) : (leX x y || leX y x) = true := by
  simp only [leX, Bool.or_eq_true, decide_eq_true_eq]; omega
theorem leX_bef {x y : RowT} (h : leX x y = true) (hne : x.tag ≠ y.tag) : bef (ltOf cfT) RowT.tag x y := by
  simp only [leX, decide_eq_true_eq] at h
  unfold bef
  rw [cfT_lt, cfT_lt]
  simp only [decide_eq_true_eq, decide_eq_false_iff_not]
  omega
section
variable {a b : List Ent} {d d' : Array RowT} {n : Nat}
/-- what the elements say of the entries -/
def Says (a b : List Ent) (d : Array RowT) : Prop := d.size = a.length + b.length ∧ ∀ j (hj : j < (a ++ b).length), d[j]!.tag = j ∧ d[j]!.t = (a ++ b)[j].time
theorem Says.mem (h : Says a b d) {x : RowT} (hx : x ∈ d.toList) : ∃ j, ∃ hj : j < (a ++ b).length, x = d[j]! ∧ x.tag = j ∧ x.t = (a ++ b)[j].time ∧ eAt (a ++ b) x.tag = (a ++ b)[j] := by
  obtain ⟨j, hj, rfl⟩ := List.getElem_of_mem hx
  have hj2 : j < d.size := by simpa using hj
  have hj' : j < (a ++ b).length := by rw [List.length_append, ← h.1]; exact hj2
  have e : d.toList[j] = d[j]! := by rw [getElem!_pos d j hj2]; simp
  obtain ⟨h1, h2⟩ := h.2 j hj'
  rw [e]
  exact ⟨j, hj', rfl, h1, h2, by rw [h1]; exact eAt_get hj'⟩
theorem Says.tags (h : Says a b d) : d.toList.Pairwise fun x y => x.tag ≠ y.tag := by
  rw [List.pairwise_iff_getElem]
  intro i j hi hj hij
  have hi2 : i < d.size := by simpa using hi
  have hj2 : j < d.size := by simpa using hj
  have e1 : d.toList[i] = d[i]! := by rw [getElem!_pos d i hi2]; simp
  have e2 : d.toList[j] = d[j]! := by rw [getElem!_pos d j hj2]; simp
  rw [e1, e2, (h.2 i (by rw [List.length_append, ← h.1]; exact hi2)).1, (h.2 j (by rw [List.length_append, ← h.1]; exact hj2)).1]
  omega
theorem Says.part (h : Says a b d) (ha : timed a) (hb : timed b) : (d.toList.take a.length).Pairwise (fun x y => leX x y = true) ∧ (d.toList.drop a.length).Pairwise (fun x y => leX x y = true) := by
  have hl := h.1
  have g : ∀ i (hi : i < d.toList.length), d.toList[i] = d[i]! := fun i hi => by rw [getElem!_pos d i (by simpa using hi)]; simp
  refine ⟨?_, ?_⟩
  · rw [List.pairwise_iff_getElem]
    intro i j hi hj hij
    simp only [List.length_take, Array.length_toList] at hi hj
    rw [List.getElem_take, List.getElem_take, g, g]
    obtain ⟨t1, t2⟩ := h.2 i (by rw [List.length_append]; omega)
    obtain ⟨u1, u2⟩ := h.2 j (by rw [List.length_append]; omega)
    have := ha i j (by omega) (by omega) hij
    rw [List.getElem_append_left (by omega)] at t2 u2
    simp only [leX, decide_eq_true_eq, t1, t2, u1, u2]
    omega
  · rw [List.pairwise_iff_getElem]
    intro i j hi hj hij
    simp only [List.length_drop, Array.length_toList] at hi hj
    rw [List.getElem_drop, List.getElem_drop, g, g]
    obtain ⟨t1, t2⟩ := h.2 (a.length + i) (by rw [List.length_append]; omega)
    obtain ⟨u1, u2⟩ := h.2 (a.length + j) (by rw [List.length_append]; omega)
    have := hb i j (by omega) (by omega) hij
    rw [List.getElem_append_right (by omega)] at t2 u2
    simp only [Nat.add_sub_cancel_left] at t2 u2
    simp only [leX, decide_eq_true_eq, t1, t2, u1, u2]
    omega
/-- the sorted elements are the joined entries -/
theorem Says.sorted (h : Says a b d) (ha : timed a) (hb : timed b) (hn : n = d.size) (hp : PermIn 0 n d d') (ho : Ord (ltOf cfT) RowT.tag 0 n d') : d'.toList.Perm d.toList ∧ d'.toList.map (fun x => eAt (a ++ b) x.tag) = jM a b := by
  subst hn
  have hl := h.1
  have hperm : d'.toList.Perm d.toList := by
    have h3 := hp.2.2
    have e1 : d'.extract 0 d.size = d' := by rw [← hp.1]; exact Array.extract_size
    rwa [e1, Array.extract_size] at h3
  refine ⟨hperm, ?_⟩
  have hta : ∀ x ∈ d.toList.take a.length, x.tag < a.length := by
    intro x hx
    obtain ⟨j, hj, rfl⟩ := List.getElem_of_mem hx
    simp only [List.length_take, Array.length_toList] at hj
    rw [List.getElem_take]
    have e : d.toList[j]'(by simp; omega) = d[j]! := by rw [getElem!_pos d j (by omega)]; simp
    rw [e, (h.2 j (by rw [List.length_append]; omega)).1]; omega
  have htb : ∀ x ∈ d.toList.drop a.length, a.length ≤ x.tag := by
    intro x hx
    obtain ⟨j, hj, rfl⟩ := List.getElem_of_mem hx
    simp only [List.length_drop, Array.length_toList] at hj
    rw [List.getElem_drop]
    have e : d.toList[a.length + j]'(by simp; omega) = d[a.length + j]! := by rw [getElem!_pos d _ (by omega)]; simp
    rw [e, (h.2 (a.length + j) (by rw [List.length_append]; omega)).1]; omega
  have hcat : d.toList.take a.length ++ d.toList.drop a.length = d.toList := List.take_append_drop _ _
  have hmx : List.merge (d.toList.take a.length) (d.toList.drop a.length) (fun x y => decide (x.t ≤ y.t)) = List.merge (d.toList.take a.length) (d.toList.drop a.length) leX := by
    have := List.map_merge (f := id) (r := fun x y : RowT => decide (x.t ≤ y.t)) (s := leX) (l := d.toList.take a.length) (l' := d.toList.drop a.length) (fun x hx y hy => by
      have h1 := hta x hx
      have h2 := htb y hy
      unfold leX
      simp only [id]
      rw [decide_eq_decide]
      omega)
    simpa using this
  have hTp : (List.merge (d.toList.take a.length) (d.toList.drop a.length) leX).Perm d.toList := by
    have := List.merge_perm_append leX (xs := d.toList.take a.length) (ys := d.toList.drop a.length)
    rwa [hcat] at this
  have hTs : (List.merge (d.toList.take a.length) (d.toList.drop a.length) leX).Pairwise (bef (ltOf cfT) RowT.tag) := by
    have h1 := List.pairwise_merge leX_trans leX_total _ _ (h.part ha hb).1 (h.part ha hb).2
    have h2 := (hTp.pairwise_iff (fun {x y} (e : x.tag ≠ y.tag) => Ne.symm e)).2 h.tags
    exact (h1.and h2).imp fun e => leX_bef e.1 e.2
  have hpair : d'.toList.Pairwise (bef (ltOf cfT) RowT.tag) := by
    have ho2 : Ord (ltOf cfT) RowT.tag 0 d'.size d' := by rw [hp.1]; exact ho
    exact ho2.pairwise
  have heq := Ord.unique cfT_swo (hperm.trans hTp.symm) hpair hTs
  rw [heq, ← hmx, List.map_merge (s := fun x y => decide (x.time ≤ y.time)) (fun x hx y hy => by
    obtain ⟨j, hj, _, _, e1, e2⟩ := h.mem (List.mem_of_mem_take hx)
    obtain ⟨k, hk, _, _, f1, f2⟩ := h.mem (List.mem_of_mem_drop hy)
    rw [e1, f1, e2, f2])]
  unfold jM
  congr 1
  · apply List.ext_getElem
    · simp; omega
    · intro j h1 h2
      simp only [List.length_map, List.length_take, Array.length_toList] at h1
      rw [List.getElem_map, List.getElem_take]
      have e : d.toList[j]'(by simp; omega) = d[j]! := by rw [getElem!_pos d j (by omega)]; simp
      have hj : j < (a ++ b).length := by rw [List.length_append]; omega
      rw [e, (h.2 j hj).1, eAt_get hj, List.getElem_append_left (by omega)]
  · apply List.ext_getElem
    · simp; omega
    · intro j h1 h2
      simp only [List.length_map, List.length_drop, Array.length_toList] at h1
      rw [List.getElem_map, List.getElem_drop]
      have e : d.toList[a.length + j]'(by simp; omega) = d[a.length + j]! := by rw [getElem!_pos d _ (by omega)]; simp
      have hj : a.length + j < (a ++ b).length := by rw [List.length_append]; omega
      rw [e, (h.2 _ hj).1, eAt_get hj, List.getElem_append_right (by omega)]
      congr 1; omega
end
/-- entries of two logs, one behind the other, in a slice that a call has made, behind the stable sort -/
theorem sortStable_ents (a b : List Ent) {lo hi G n c : Nat} {rows : List (List Value)} (w : World) (ho : OwnR w lo hi 74 5 (.slice (some ⟨G, 0, none⟩) n c) rows) (he : EntsOwn w lo hi (a ++ b) rows) (ha : timed a) (hb : timed b) (hn : 0 < rows.length) (hl : rows.length ≤ 1000000000) (hh : hi ≤ w.heap.size) :
    Calls Tryz.prog 138 #[.slice (some ⟨G, 0, none⟩) n c, .func (.func 139) #[] #[]] w fun e w' => e = .returned (.tuple #[]) ∧ ∃ rows', OwnR w' lo w'.heap.size 74 5 (.slice (some ⟨G, 0, none⟩) n c) rows' ∧ EntsOwn w' lo w'.heap.size (jM a b) rows' ∧ Below lo w w' := by
  obtain ⟨d, hd, hx⟩ := he.elems
  have hnr : n = rows.length := by
    obtain ⟨A', c', e, _⟩ := ho.cells
    injection e
  have hlen := he.len
  obtain ⟨hH, hG⟩ := ho.holdsK hn hd fun j hj => (hx j hj).1
  have hS : Says a b d := ⟨by rw [hd, hlen, List.length_append], fun j hj => by
    have hj' : j < rows.length := by rw [hlen]; exact hj
    exact (hx j hj').2⟩
  refine (sortStable_row G c n d w hH hG (by omega) (by omega) (fun i hi => (hx i (by omega)).2.1)).mono ?_
  rintro e w' ⟨hee, d', hp, hor, S⟩
  refine ⟨hee, d'.toList.map encT, ?_⟩
  have hd' : d'.size = rows.length := by rw [hp.1, hd]
  obtain ⟨h1, h2, h3, h4⟩ := sortedRows ho hd' S
  obtain ⟨hperm, hmap⟩ := hS.sorted ha hb (by omega) hp hor
  refine ⟨h1, ?_, h4⟩
  obtain ⟨curG, hcurG⟩ := ho.blockT G rfl
  have hki : KeepI w w' := fun k cs hk => h2 k (Array.getElem?_eq_some_iff.1 hk).1 (fun e => by
    subst e
    rw [hcurG] at hk
    injection hk with hk
    injection hk with _ hk _
    exact absurd hk (by decide))
  rw [← hmap]
  have hrows : d.toList.map encT = rows := by
    apply List.ext_getElem
    · simp [hd]
    · intro j q1 q2
      rw [List.getElem_map]
      have e : d.toList[j]'(by simpa using q1) = d[j]! := by rw [getElem!_pos d j (by simpa using q1)]; simp
      rw [e, (hx j q2).1]
  refine ⟨by simp, fun j q1 q2 => ?_, ?_⟩
  · rw [List.getElem_map, List.getElem_map]
    have hjd : j < d'.toList.length := by simpa using q1
    obtain ⟨k, hk, e1, e2, e3, e4⟩ := hS.mem (hperm.mem_iff.1 (List.getElem_mem hjd))
    have hk' : k < rows.length := by rw [hlen]; exact hk
    have e5 : encT d'.toList[j] = rows[k] := by rw [e1]; exact (hx k hk').1
    rw [e4, e5]
    exact ((he.ent k hk hk').keepI hki).mono (Nat.le_refl _) (Nat.le_trans hh h4.size)
  · have hpr : (d'.toList.map encT).Perm rows := by rw [← hrows]; exact hperm.map _
    exact (hpr.pairwise_iff fun h => DjR.sy h).2 he.dj
end Go.Proofs.YtjhbffndiaggmaaGreatDoor

/-
  The contract of the program's JoinLogs. The conditions are bounds on lengths.
-/
namespace Go.Proofs.YtjhbffndiaggmaaGreatDoor
open Go.RowKit Go.ChangeShapes Go.WideShapes Go.Sort
set_option linter.unusedVariables false
set_option linter.unusedSimpArgs false

/-- a valid log is in order of time -/
theorem log_timed {es : List Ent} (h : logB es = true) : timed es := by
  have step : ∀ k (hk : k + 1 < es.length), es[k].time ≤ es[k + 1].time := by
    intro k hk
    have h1 := (logB_iff.1 h).2 (k + 1) hk
    simp only [okE, Bool.and_eq_true, Bool.or_eq_true, decide_eq_true_eq, Nat.add_sub_cancel, beq_iff_eq] at h1
    have h2 := h1.2.2.resolve_left (by omega)
    rwa [eAt_get (by omega), eAt_get hk] at h2
  intro i j hi hj hij
  obtain ⟨m, rfl⟩ : ∃ m, j = i + 1 + m := ⟨j - (i + 1), by omega⟩
  induction m with
  | zero => exact step i hj
  | succ m ih => exact Int.le_trans (ih (by omega) (by omega)) (step (i + 1 + m) hj)
section
variable {ops : Array Oper} {rest : List Oper} {o : Oper} {a : Act} {Q : Exit → Act → World → Prop} {w : World} {lo hi : Nat} {v : Value} {rows rows2 : List (List Value)}
/-- 'append(l, m...)' of two slices of entries that calls have made -/
theorem wp_append_two (hgd : o.guard = none) (s x : Operand) {lo2 hi2 : Nat} {u : Value} (ho : o.op = .call { callee := .builtin .append, args := #[s, x], argTypes := #[65, 65] })
    (hs : a.eval s = v) (hown : OwnR w lo hi 74 5 v rows) (hx : a.eval x = u) (hown2 : OwnR w lo2 hi2 74 5 u rows2) (hone : ∀ r ∈ rows2, ∀ z ∈ r, z.oneCell' = true)
    (hlen : rows.length + rows2.length ≤ 1073741824) (hlo : lo ≤ w.heap.size)
    (h : ∀ v' w', OwnR w' lo w'.heap.size 74 5 v' (rows ++ rows2) → w.grownBy w' v.ownBlock → Below lo w w' → wpList Tryz.prog ops Q rest (a.put o.dst v') w') : wpList Tryz.prog ops Q (o :: rest) a w := by
  obtain ⟨A2, c2, rfl, hc2, -, hnil, hcells⟩ := hown2.cells
  rcases Nat.eq_zero_or_pos rows2.length with h0 | h0
  · obtain rfl : rows2 = [] := List.eq_nil_of_length_eq_zero h0
    cases A2 with
    | none =>
      refine wpList_plain hgd fun K hK => ?_
      obtain ⟨i0, hi0, hz0, hz1, hz2⟩ := info_parts entInfo
      have hrun := run_append_none (P := Tryz.prog) w lo _ o.type _ i0 5 Tryz.underlying65 hi0 v _ _ hown.1 c2
      unfold Oper.wp execOp
      simp only [ho, resolve, invoke, builtin, Sem.run_bind, Sem.run_pure, Result.andThen_ok, List.map_toArray, List.map_cons, List.map_nil, hs, hx, List.length_nil, hrun]
      exact hK _ _ (h v w (by rw [List.append_nil]; exact hown.inH) (World.grownBy.refl w _) (Below.refl _ _))
    | some ad =>
      rcases hown2.1.2 with ⟨e, _⟩ | ⟨g, cap, cur, e, _⟩
      · cases e
      · injection e with e
        injection e with e
        subst e
        exact wp_append_rows (news := []) hgd s x ho Tryz.underlying65 entInfo rfl (by omega) hs hown hx (fun j hj => absurd hj (by simp)) (by simp) (by simp) (by simpa using hlen) (by omega) hlo fun v' w' q1 q2 q3 _ => h v' w' q1 q2 q3
  · obtain ⟨g, rfl, -, -, -, -, hc⟩ := hcells h0
    exact wp_append_rows (news := rows2) hgd s x ho Tryz.underlying65 entInfo rfl (by omega) hs hown hx hc hown2.2.1 hone hlen (by omega) hlo fun v' w' q1 q2 q3 _ => h v' w' q1 q2 q3
end
theorem insSort_none (A : Option Addr) (c : Nat) (fv : Value) (w : World) : Calls Tryz.prog 197 #[.slice A 0 c, .int .i64 0, .int .i64 0, fv] w fun e w' => e = .returned (.tuple #[]) ∧ w = w' := by
  go_enter Tryz.func197, Tryz.ntmps197
  go_wp2_with fail
  go_loop [8] (fun s => s = .int .i64 1) (fun _ => 0)
  case atStart => exact rfl
  case round =>
    obtain rfl := hrel
    go_wp2_with fail
    go_end0
    exact ⟨rfl, rfl⟩
theorem stable_none (A : Option Addr) (c : Nat) (fv : Value) (w : World) : Calls Tryz.prog 169 #[.slice A 0 c, .int .i64 0, fv] w fun e w' => e = .returned (.tuple #[]) ∧ w = w' := by
  go_enter Tryz.func169, Tryz.ntmps169
  go_wp2_with fail
  go_loop [7, 8] (fun s t => s = .int .i64 0 ∧ t = .int .i64 20) (fun _ _ => 0)
  case atStart => exact ⟨rfl, rfl⟩
  case round =>
    obtain ⟨rfl, rfl⟩ := hrel
    go_wp2_with fail
    (with_reducible refine (insSort_none A c fv _).mono ?_)
    rintro e w1 ⟨rfl, rfl⟩
    go_wp2_with fail
    go_loop [6] (fun s => s = .int .i64 20) (fun _ => 0)
    case atStart => exact rfl
    case round =>
      obtain rfl := hrel
      go_wp2_with fail
      go_end0
      exact ⟨rfl, rfl⟩
theorem sortStable_none (A : Option Addr) (c : Nat) (fv : Value) (w : World) : Calls Tryz.prog 138 #[.slice A 0 c, fv] w fun e w' => e = .returned (.tuple #[]) ∧ w = w' := by
  go_enter Tryz.func138, Tryz.ntmps138
  go_wp2_with fail
  (with_reducible refine (stable_none A c fv _).mono ?_)
  rintro e w1 ⟨rfl, rfl⟩
  go_wp2_with fail
  go_end0
  exact ⟨rfl, rfl⟩
/-- the sort at whatever number of entries -/
theorem sortStable_any (a b : List Ent) {lo hi n c : Nat} {A : Option Addr} {rows : List (List Value)} (w : World) (ho : OwnR w lo hi 74 5 (.slice A n c) rows) (he : EntsOwn w lo hi (a ++ b) rows) (ha : timed a) (hb : timed b) (hl : rows.length ≤ 1000000000) (hh : hi ≤ w.heap.size) :
    Calls Tryz.prog 138 #[.slice A n c, .func (.func 139) #[] #[]] w fun e w' => e = .returned (.tuple #[]) ∧ ∃ rows', OwnR w' lo w'.heap.size 74 5 (.slice A n c) rows' ∧ EntsOwn w' lo w'.heap.size (jM a b) rows' ∧ Below lo w w' := by
  rcases Nat.eq_zero_or_pos rows.length with h0 | h0
  · obtain ⟨A', c', e, _⟩ := ho.cells
    have hn : n = 0 := by injection e with e1 e2 e3; omega
    subst hn
    obtain rfl : rows = [] := List.eq_nil_of_length_eq_zero h0
    have hab : a ++ b = [] := List.eq_nil_of_length_eq_zero (by rw [← he.len]; rfl)
    obtain ⟨rfl, rfl⟩ := List.append_eq_nil_iff.1 hab
    refine (sortStable_none A c _ w).mono ?_
    rintro e w' ⟨hee, rfl⟩
    have h00 : jM [] [] = [] := by simp [jM]
    exact ⟨hee, [], ho.inH, by rw [h00]; exact EntsOwn.nil, Below.refl _ _⟩
  · obtain ⟨A', c', e, _, _, _, hx⟩ := ho.cells
    obtain ⟨g, hg, _⟩ := hx h0
    have hA : A = some ⟨g, 0, none⟩ := by injection e with e1 e2 e3; rw [e1, hg]
    subst hA
    exact sortStable_ents a b w ho he ha hb h0 hl hh
set_option maxRecDepth 100000 in
set_option maxHeartbeats 8000000 in
theorem iJoinLogs_any (es : List Ent) (A : Option Addr) (c : Nat) (fs : List Ent) (B : Option Addr) (d : Nat) {l h l' h' : Nat} (w : World) (hr0 : RdE w l h A es) (hs0 : RdE w l' h' B fs) (hl : eszL es ≤ 1048576) (hl' : eszL fs ≤ 1048576) (hca : es.length ≤ c) (hcb : fs.length ≤ d) :
    Calls Tryz.prog 65 #[.slice A es.length c, .slice B fs.length d] w fun e w' => ∃ A' c', e = .returned (.tuple #[.slice A' (jlL es fs).length c', .bool (jlB es fs)]) ∧ OwnE w' w.heap.size w'.heap.size (.slice A' (jlL es fs).length c') (jlL es fs) ∧ eszL (jlL es fs) ≤ 1048576 ∧ Below w.heap.size w w' := by
  have hr := hr0.std
  have hs := hs0.std
  clear hr0 hs0
  have hsz := Lib.hid (jl_esz (a := es) (b := fs))
  cases q1 : logB es with
  | false =>
    have hq := jlB_a (b := fs) q1
    rw [jlL_no hq, hq]
    clear hq hsz
    go_enter Tryz.func65, Tryz.ntmps65
    go_wp2_with fail
    (with_reducible refine (iIsLog_v es A c _ hr hl hca _ q1).mono ?_)
    rintro e w1 ⟨rfl, hb1⟩
    have hBH := Lib.hid hb1
    clear hb1 hr hs
    go_wp2_with fail
    go_ret2
    exact ⟨none, 0, rfl, OwnE.nil, by rw [esz_nil]; omega, hBH.out⟩
  | true =>
    cases q2 : logB fs with
    | false =>
      have hq := jlB_b (a := es) q2
      rw [jlL_no hq, hq]
      clear hq hsz
      go_enter Tryz.func65, Tryz.ntmps65
      go_wp2_with fail
      (with_reducible refine (iIsLog_v es A c _ hr hl hca _ q1).mono ?_)
      rintro e w1 ⟨rfl, hb1⟩
      have hs1 := hs.st hb1
      have hBH := Lib.hid hb1
      clear hb1 hr hs q1
      go_wp2_with fail
      (with_reducible refine (iIsLog_v fs B d _ hs1 hl' hcb _ q2).mono ?_)
      rintro e w2 ⟨rfl, hb2⟩
      have hB2 := Lib.hid (hBH.out.trans (hb2.mono hBH.out.size))
      clear hb2 hs1 q2
      go_wp2_with fail
      go_ret2
      exact ⟨none, 0, rfl, OwnE.nil, by rw [esz_nil]; omega, hB2.out⟩
    | true =>
      have hle := log_len q1
      have hlf := log_len q2
      have hze := log_esz q1
      have hzf := log_esz q2
      have hte := Lib.hid (log_timed q1)
      have htf := Lib.hid (log_timed q2)
      obtain ⟨v, hv⟩ : ∃ v, logB (jM es fs) = v := ⟨_, rfl⟩
      have hjB := jlB_v q1 q2 hv
      have hjL := jlL_v hjB
      rw [hjB]
      obtain ⟨R, hR⟩ : ∃ R, R = jlL es fs := ⟨_, rfl⟩
      rw [← hR] at hjL hsz ⊢
      have hvH := Lib.hid hv
      have hjH := Lib.hid hjL
      have hme := Lib.hid (jM_esz es fs)
      have hml := Lib.hid (jM_len es fs)
      clear hv hjB hjL hR
      go_enter Tryz.func65, Tryz.ntmps65
      go_wp2_with fail
      (with_reducible refine (iIsLog_v es A c _ hr hl hca _ q1).mono ?_)
      rintro e w1 ⟨rfl, hb1⟩
      have s1 := hb1.size
      have hr1 := hr.st hb1
      have hs1 := hs.st hb1
      have hB1 := Lib.hid hb1
      clear hb1 hr hs q1
      go_wp2_with fail
      (with_reducible refine (iIsLog_v fs B d _ hs1 hl' hcb _ q2).mono ?_)
      rintro e w2 ⟨rfl, hb2⟩
      have s2 := hb2.size
      have hr2 := hr1.st hb2
      have hs2 := hs1.st hb2
      have hB2 := Lib.hid (hB1.out.trans (hb2.mono s1))
      clear hb2 hr1 hs1 hB1 q2
      go_wp2_with fail
      (with_reducible refine (cloneLog_any es A c _ hr2 hl).mono ?_)
      rintro e w3 ⟨v3, rows3, rfl, o3, e3, hb3⟩
      have s3 := hb3.size
      have hs3 := hs2.st hb3
      have hB3 := Lib.hid (hB2.out.trans (hb3.mono (by omega)))
      clear hb3 hr2 hs2 hB2
      go_wp2_with fail
      (with_reducible refine (cloneLog_any fs B d _ hs3 hl').mono ?_)
      rintro e w4 ⟨v4, rows4, rfl, o4, e4, hb4⟩
      have s4 := hb4.size
      have o3b := o3.st hb4
      have e3b := e3.st hb4
      have hB4 := Lib.hid (hB3.out.trans (hb4.mono (by omega)))
      have hl3 : rows3.length ≤ 30 := by rw [e3.len]; exact hle
      have hl4 : rows4.length ≤ 30 := by rw [e4.len]; exact hlf
      have hone := Lib.hid e4.rws.oneC
      have o3H := Lib.hid o3b
      have e3H := Lib.hid e3b
      have o4H := Lib.hid o4
      have e4H := Lib.hid e4
      clear hb4 hs3 hB3 o3 e3 o3b e3b o4 e4
      go_wp2_with (at_builtin; refine wp_append_two rfl (.tmp 16) (.tmp 18) rfl (by rfl) o3H.out (by rfl) o4H.out hone.out (by omega) (by omega) ?_; intro v5 w5 o5 hg5 hb5; (obtain ⟨A5, c5, rfl, -⟩ := o5.cells); (obtain ⟨n5, hn5⟩ : ∃ n5, n5 = (rows3 ++ rows4).length := ⟨_, rfl⟩); rw [← hn5] at o5 ⊢; (have hn5H := Lib.hid hn5); clear hn5)
      have s5 := hb5.size
      have e5 := ((e3H.out.append e4H.out (Nat.le_refl _) (by omega) (by omega)).keepI (KeepI.grown o3H.out hg5 (by decide))).mono (Nat.le_refl _) (show w4.heap.size ≤ w5.heap.size by omega)
      have hB5 := Lib.hid (hB4.out.trans (hb5.mono (by omega)))
      have hl5 : (rows3 ++ rows4).length ≤ 1000000000 := by rw [List.length_append]; omega
      have o5b := o5.mono (show w2.heap.size ≤ w2.heap.size from Nat.le_refl _) (Nat.le_refl _)
      clear o3H e3H o4H e4H hone hg5 hb5 hB4 o5
      (with_reducible refine (sortStable_any es fs _ o5b e5 hte.out htf.out hl5 (Nat.le_refl _)).mono ?_)
      rintro e w6 ⟨rfl, rows6, o6, e6, hb6⟩
      have s6 := hb6.size
      have hB6 := Lib.hid (hB5.out.trans (hb6.mono (by omega)))
      have hrd := (o6.rdE e6.rws).1
      have hn6 : n5 = (jM es fs).length := (o6.rdE e6.rws).2.1
      have hc6 : n5 ≤ c5 := (o6.rdE e6.rws).2.2.1
      have hO6 := Lib.hid (EntsOwn.ownE o6 e6)
      have hn6H := Lib.hid hn6
      clear hb6 hB5 o6 e6 o5b e5 hl5 hn6 hn5H
      go_wp2_with fail
      (with_reducible refine (checkedLog_v (jM es fs) A5 n5 c5 _ hrd hn6H.out (by have := hme.out; omega) hc6 v hvH.out R hjH.out).mono ?_)
      rintro e w7 ⟨A7, c7, rfl, hcs, hb7⟩
      have hB7 := Lib.hid (hB6.out.trans (hb7.mono (by omega)))
      have hO7 := Lib.hid (hO6.out.st hb7)
      have hsH := Lib.hid (show w.heap.size ≤ w2.heap.size ∧ w6.heap.size ≤ w7.heap.size from ⟨by omega, hb7.size⟩)
      clear hb7 hrd hB6 hO6
      go_wp2_with fail
      go_ret2
      refine ⟨A7, c7, rfl, ?_, hsz.out, hB7.out⟩
      have hR := hjH.out
      rcases hcs with ⟨hv, hA, hc⟩ | ⟨hv, hA, hc⟩
      · rw [if_pos hv] at hR
        rw [hA, hc, hR]
        have := hO7.out.mono hsH.out.1 hsH.out.2
        rwa [hn6H.out] at this
      · rw [if_neg (by simp [hv])] at hR
        rw [hA, hc, hR]
        exact OwnE.nil
end Go.Proofs.YtjhbffndiaggmaaGreatDoor
