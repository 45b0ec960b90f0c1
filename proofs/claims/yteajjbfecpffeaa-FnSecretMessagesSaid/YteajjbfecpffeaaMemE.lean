/-
  Words for memory: slices of log entries that read as lists of entries, and slices of entries that a call has made. No statement of the program stands here.
-/
import Derived.Test.YteajjbfecpffeaaEntry
namespace Go.Proofs.Yteajjbfecpffeaa
open Go.RowKit
set_option linter.unusedVariables false

/-- entry e lies in block b from offset o on -/
def EntAt (w : World) (lo hi b o : Nat) (e : Ent) : Prop :=
  ∃ A1 c1 A2 c2, w.cell? ⟨b, o, none⟩ = some (.int .i64 e.time) ∧ w.cell? ⟨b, o + 1, none⟩ = some (.int .i64 e.msg) ∧ w.cell? ⟨b, o + 2, none⟩ = some (.int .i64 e.part) ∧
    w.cell? ⟨b, o + 3, none⟩ = some (.slice A1 e.seen.length c1) ∧ w.cell? ⟨b, o + 4, none⟩ = some (.slice A2 e.shown.length c2) ∧ Rd w lo hi A1 e.seen ∧ Rd w lo hi A2 e.shown

/-- the slice value with address A reads as the entries es -/
def RdE (w : World) (lo hi : Nat) (A : Option Addr) (es : List Ent) : Prop :=
  0 < es.length → ∃ b off, A = some ⟨b, off, none⟩ ∧ lo ≤ b ∧ b < hi ∧ ∀ j (hj : j < es.length), EntAt w lo hi b (off + j * 5) es[j]

section
variable {w w' : World} {lo hi lo' hi' B b o : Nat} {A : Option Addr} {es : List Ent} {e : Ent}
theorem EntAt.mono (h : EntAt w lo hi b o e) (h1 : lo' ≤ lo) (h2 : hi ≤ hi') : EntAt w lo' hi' b o e := by
  obtain ⟨A1, c1, A2, c2, x0, x1, x2, x3, x4, r1, r2⟩ := h
  exact ⟨A1, c1, A2, c2, x0, x1, x2, x3, x4, r1.mono h1 h2, r2.mono h1 h2⟩
theorem EntAt.std (h : EntAt w lo hi b o e) : EntAt w 0 w.heap.size b o e := by
  obtain ⟨A1, c1, A2, c2, x0, x1, x2, x3, x4, r1, r2⟩ := h
  exact ⟨A1, c1, A2, c2, x0, x1, x2, x3, x4, r1.std, r2.std⟩
theorem EntAt.lt (h : EntAt w lo hi b o e) : b < w.heap.size := by
  obtain ⟨A1, c1, A2, c2, x0, _⟩ := h
  exact World.block_lt_of_cell? w _ x0
theorem EntAt.keep (h : EntAt w lo hi b o e) (hb : lo ≤ b ∧ b < hi) (hk : ∀ b o, lo ≤ b → b < hi → b < w.heap.size → w'.cell? ⟨b, o, none⟩ = w.cell? ⟨b, o, none⟩) : EntAt w' lo hi b o e := by
  have hl := h.lt
  obtain ⟨A1, c1, A2, c2, x0, x1, x2, x3, x4, r1, r2⟩ := h
  have k := fun o => hk b o hb.1 hb.2 hl
  exact ⟨A1, c1, A2, c2, (k _).trans x0, (k _).trans x1, (k _).trans x2, (k _).trans x3, (k _).trans x4, r1.keep hk, r2.keep hk⟩
theorem RdE.nil : RdE w lo hi A [] := fun h => absurd h (by simp)
theorem RdE.mono (h : RdE w lo hi A es) (h1 : lo' ≤ lo) (h2 : hi ≤ hi') : RdE w lo' hi' A es := fun hp => by
  obtain ⟨b, off, e, a1, a2, hc⟩ := h hp
  exact ⟨b, off, e, by omega, by omega, fun j hj => (hc j hj).mono h1 h2⟩
theorem RdE.std (h : RdE w lo hi A es) : RdE w 0 w.heap.size A es := fun hp => by
  obtain ⟨b, off, e, _, _, hc⟩ := h hp
  exact ⟨b, off, e, Nat.zero_le _, (hc 0 hp).lt, fun j hj => (hc j hj).std⟩
theorem RdE.keep (h : RdE w lo hi A es) (hk : ∀ b o, lo ≤ b → b < hi → b < w.heap.size → w'.cell? ⟨b, o, none⟩ = w.cell? ⟨b, o, none⟩) : RdE w' lo hi A es := fun hp => by
  obtain ⟨b, off, e, a1, a2, hc⟩ := h hp
  exact ⟨b, off, e, a1, a2, fun j hj => (hc j hj).keep ⟨a1, a2⟩ hk⟩
theorem RdE.below (h : RdE w lo hi A es) (hb : Below B w w') (hB : hi ≤ B) : RdE w' lo hi A es := h.keep fun b o _ h2 _ => hb.cell (p := ⟨b, o, none⟩) (by show b < B; omega)
theorem RdE.st (h : RdE w lo hi A es) (hb : Below w.heap.size w w') : RdE w' lo hi A es := h.keep fun b o _ _ h3 => hb.cell (p := ⟨b, o, none⟩) h3
theorem RdE.fr (h : RdE w lo hi A es) (hf : Fr lo' hi' w w') (hd : hi ≤ lo' ∨ hi' ≤ lo) : RdE w' lo hi A es :=
  h.keep fun b o h1 h2 h3 => World.cell?_of_block (w := w) (hf.block b h3 (by omega))
theorem RdE.drew (h : RdE w lo hi A es) : RdE w.drew lo hi A es := h
theorem RdE.drewN (h : RdE w lo hi A es) (k : Nat) : RdE (w.drewN k) lo hi A es := h
theorem RdE.alloc (h : RdE w lo hi A es) (o : Obj) : RdE (w.alloc o) lo hi A es := h.keep fun b o' _ _ h3 => World.cell?_alloc_lt w o _ (by exact h3)
/-- the first k of them: 'l[:k]' -/
theorem RdE.take (h : RdE w lo hi A es) (k : Nat) : RdE w lo hi A (es.take k) := fun hp => by
  rw [List.length_take] at hp
  obtain ⟨b, off, e, a1, a2, hc⟩ := h (by omega)
  refine ⟨b, off, e, a1, a2, fun j hj => ?_⟩
  rw [List.length_take] at hj
  have := hc j (by omega)
  rwa [List.getElem_take]
end

/-! ### what a call has made -/
/-- the cells of an entry in an array of cells, from o on; u, v: its two slices -/
def EntCells (cur : Array Value) (o : Nat) (e : Ent) (u v : Value) : Prop :=
  cur[o]? = some (.int .i64 e.time) ∧ cur[o + 1]? = some (.int .i64 e.msg) ∧ cur[o + 2]? = some (.int .i64 e.part) ∧ cur[o + 3]? = some u ∧ cur[o + 4]? = some v
/-- no two of these slices share a block -/
def DjV (n : Nat) (U V : Nat → Value) : Prop :=
  (∀ i, i < n → Dj (U i) (V i)) ∧ ∀ i j, i < n → j < n → i ≠ j → Dj (U i) (U j) ∧ Dj (U i) (V j) ∧ Dj (V i) (U j) ∧ Dj (V i) (V j)

/-- the slice value v has been made by a call: a block of its own that holds the entries es, each with two slices of its own, all in blocks from lo on and below hi, no two of them one. -/
def OwnE (w : World) (lo hi : Nat) (v : Value) (es : List Ent) : Prop :=
  (v = .slice none 0 0 ∧ es = []) ∨
  ∃ g cap cur U V, v = .slice (some ⟨g, 0, none⟩) es.length cap ∧ lo ≤ g ∧ g < hi ∧ w.heap[g]? = some (.cells cur 49 (0, 0)) ∧ es.length ≤ cap ∧ cap ≤ maxLen ∧ cur.size = cap * 5 ∧
    (∀ j (hj : j < es.length), EntCells cur (j * 5) es[j] (U j) (V j) ∧ Own w lo hi (U j) es[j].seen ∧ Own w lo hi (V j) es[j].shown) ∧ DjV es.length U V

section
variable {w w' : World} {lo hi lo' hi' B g : Nat} {v : Value} {es : List Ent}
theorem OwnE.nil : OwnE w lo hi (.slice none 0 0) [] := .inl ⟨rfl, rfl⟩
theorem OwnE.mono (h : OwnE w lo hi v es) (h1 : lo' ≤ lo) (h2 : hi ≤ hi') : OwnE w lo' hi' v es := by
  rcases h with h | ⟨g, cap, cur, U, V, e, a1, a2, hg, c1, c2, c3, hj, hd⟩
  · exact .inl h
  · exact .inr ⟨g, cap, cur, U, V, e, by omega, by omega, hg, c1, c2, c3, fun j h => ⟨(hj j h).1, (hj j h).2.1.mono h1 h2, (hj j h).2.2.mono h1 h2⟩, hd⟩
theorem OwnE.keep (h : OwnE w lo hi v es) (hk : ∀ k, lo ≤ k → k < hi → k < w.heap.size → w'.heap[k]? = w.heap[k]?) : OwnE w' lo hi v es := by
  rcases h with h | ⟨g, cap, cur, U, V, e, a1, a2, hg, c1, c2, c3, hj, hd⟩
  · exact .inl h
  · exact .inr ⟨g, cap, cur, U, V, e, a1, a2, (hk g a1 a2 (Array.getElem?_eq_some_iff.1 hg).1).trans hg, c1, c2, c3, fun j h => ⟨(hj j h).1, (hj j h).2.1.keep fun k _ => hk k, (hj j h).2.2.keep fun k _ => hk k⟩, hd⟩
theorem OwnE.st (h : OwnE w lo hi v es) (hb : Below w.heap.size w w') : OwnE w' lo hi v es := h.keep fun k _ _ h3 => hb.block k h3
theorem OwnE.below (h : OwnE w lo hi v es) (hb : Below B w w') (hB : hi ≤ B ∨ w.heap.size ≤ B) : OwnE w' lo hi v es := h.keep fun k _ h2 h3 => hb.block k (by omega)
theorem OwnE.fr (h : OwnE w lo hi v es) (hf : Fr lo' hi' w w') (hd : hi ≤ lo' ∨ hi' ≤ lo) : OwnE w' lo hi v es := h.keep fun k h1 h2 h3 => hf.block k h3 (by omega)
theorem OwnE.drew (h : OwnE w lo hi v es) : OwnE w.drew lo hi v es := h
theorem OwnE.drewN (h : OwnE w lo hi v es) (k : Nat) : OwnE (w.drewN k) lo hi v es := h
theorem OwnE.alloc (h : OwnE w lo hi v es) (o : Obj) : OwnE (w.alloc o) lo hi v es := h.keep fun k _ _ h3 => Below.heap_alloc w o k h3
theorem OwnE.setCell (h : OwnE w lo hi v es) {p : Addr} (hp : p.block < lo ∨ hi ≤ p.block) (u : Value) : OwnE (w.setCell p u) lo hi v es := h.keep fun k h1 h2 _ => Below.heap_setCell w p u k (by omega)
theorem OwnE.rd (h : OwnE w lo hi v es) : ∃ A c, v = .slice A es.length c ∧ RdE w lo hi A es ∧ c ≤ maxLen := by
  rcases h with ⟨rfl, rfl⟩ | ⟨g, cap, cur, U, V, rfl, a1, a2, hg, c1, c2, c3, hj, hd⟩
  · exact ⟨none, 0, rfl, RdE.nil, by simp [maxLen]⟩
  · refine ⟨_, cap, rfl, fun hp => ⟨g, 0, rfl, a1, a2, fun j h => ?_⟩, c2⟩
    obtain ⟨⟨x0, x1, x2, x3, x4⟩, hu, hv⟩ := hj j h
    obtain ⟨A1, d1, e1, r1, _⟩ := hu.rd
    obtain ⟨A2, d2, e2, r2, _⟩ := hv.rd
    have hc : ∀ i, w.cell? ⟨g, i, none⟩ = cur[i]? := fun i => cell_of_row w g i cur _ _ hg
    rw [Nat.zero_add]
    exact ⟨A1, d1, A2, d2, (hc _).trans x0, (hc _).trans x1, (hc _).trans x2, (hc _).trans (x3.trans (by rw [e1])), (hc _).trans (x4.trans (by rw [e2])), r1, r2⟩
theorem OwnE.rd' {A : Option Addr} {n c : Nat} (h : OwnE w lo hi (.slice A n c) es) : RdE w lo hi A es := by
  obtain ⟨A', c', he, hr, _⟩ := h.rd
  injection he with h1 h2 h3
  subst h1
  exact hr
theorem OwnE.len {A : Option Addr} {n c : Nat} (h : OwnE w lo hi (.slice A n c) es) : n = es.length := by
  obtain ⟨A', c', he, _⟩ := h.rd
  injection he

/-- a slice of integers never lies in a block of entries -/
theorem Own.ne_ent {u : Value} {s : List Int} {cur : Array Value} (h : Own w lo hi u s) (hg : w.heap[g]? = some (.cells cur 49 (0, 0))) : u.ownBlock ≠ some g := by
  rcases h.1.2 with ⟨rfl, _⟩ | ⟨g', cap, cur', rfl, _, hh, _⟩
  · simp [Value.ownBlock]
  · intro he
    have : g' = g := by simpa [Value.ownBlock] using he
    subst this
    rw [hg] at hh
    injection hh with hh
    injection hh with _ ht
    exact absurd ht (by decide)
theorem Own.setOther {u : Value} {s : List Int} (h : Own w lo hi u s) {p : Addr} (hp : u.ownBlock ≠ some p.block) (x : Value) : Own (w.setCell p x) lo hi u s :=
  h.keep fun k hk _ _ _ => Below.heap_setCell w p x k (fun e => hp (by rw [hk, e]))

/-- the five stores of an entry -/
def wEnt (w : World) (g o : Nat) (e : Ent) (u v : Value) : World :=
  ((((w.setCell ⟨g, o, none⟩ (.int .i64 e.time)).setCell ⟨g, o + 1, none⟩ (.int .i64 e.msg)).setCell ⟨g, o + 2, none⟩ (.int .i64 e.part)).setCell ⟨g, o + 3, none⟩ u).setCell ⟨g, o + 4, none⟩ v
def setEntCells (cur : Array Value) (o : Nat) (e : Ent) (u v : Value) : Array Value :=
  ((((cur.setIfInBounds o (.int .i64 e.time)).setIfInBounds (o + 1) (.int .i64 e.msg)).setIfInBounds (o + 2) (.int .i64 e.part)).setIfInBounds (o + 3) u).setIfInBounds (o + 4) v
theorem setEntCells_size (cur : Array Value) (o : Nat) (e : Ent) (u v : Value) : (setEntCells cur o e u v).size = cur.size := by simp [setEntCells]
theorem setEntCells_same (cur : Array Value) (o : Nat) (e : Ent) (u v : Value) (h : o + 4 < cur.size) : EntCells (setEntCells cur o e u v) o e u v := by
  unfold EntCells setEntCells
  refine ⟨?_, ?_, ?_, ?_, ?_⟩ <;> simp [Array.getElem?_setIfInBounds, Array.size_setIfInBounds] <;> omega
theorem setEntCells_other (cur : Array Value) (o i : Nat) (e : Ent) (u v : Value) (h : i < o ∨ o + 4 < i) : (setEntCells cur o e u v)[i]? = cur[i]? := by
  unfold setEntCells
  simp only [Array.getElem?_setIfInBounds]
  repeat rw [if_neg (by omega)]
theorem setEnt_heap {cur : Array Value} {t : TypeId} (hg : w.heap[g]? = some (.cells cur t (0, 0))) (o : Nat) (e : Ent) (u v : Value) : (wEnt w g o e u v).heap[g]? = some (.cells (setEntCells cur o e u v) t (0, 0)) := by
  unfold wEnt setEntCells
  exact ((((Bk.set_ (show Bk w g t cur from hg) o _).set_ (o + 1) _).set_ (o + 2) _).set_ (o + 3) _).set_ (o + 4) _
theorem setEnt_other (w : World) (g o k : Nat) (e : Ent) (u v : Value) (h : k ≠ g) : (wEnt w g o e u v).heap[k]? = w.heap[k]? := by
  unfold wEnt
  rw [Below.heap_setCell _ _ _ _ h, Below.heap_setCell _ _ _ _ h, Below.heap_setCell _ _ _ _ h, Below.heap_setCell _ _ _ _ h, Below.heap_setCell _ _ _ _ h]
theorem setEnt_size (w : World) (g o : Nat) (e : Ent) (u v : Value) : (wEnt w g o e u v).heap.size = w.heap.size := by simp [wEnt]
theorem setEnt_below {B g o : Nat} {w0 : World} (h : Below B w0 w) (hB : B ≤ g) (e : Ent) (u v : Value) : Below B w0 (wEnt w g o e u v) :=
  ((((h.setCell (p := ⟨g, o, none⟩) hB _).setCell (p := ⟨g, o + 1, none⟩) hB _).setCell (p := ⟨g, o + 2, none⟩) hB _).setCell (p := ⟨g, o + 3, none⟩) hB _).setCell (p := ⟨g, o + 4, none⟩) hB _
theorem setEnt_fr {o : Nat} {w0 : World} (h : Fr lo hi w0 w) (hB : lo ≤ g ∧ g < hi) (e : Ent) (u v : Value) : Fr lo hi w0 (wEnt w g o e u v) :=
  ((((h.setCell (p := ⟨g, o, none⟩) hB _).setCell (p := ⟨g, o + 1, none⟩) hB _).setCell (p := ⟨g, o + 2, none⟩) hB _).setCell (p := ⟨g, o + 3, none⟩) hB _).setCell (p := ⟨g, o + 4, none⟩) hB _

/-- an entry is stored at place k, its two slices just made -/
theorem OwnE.stored {n c k : Nat} {hi2 : Nat} (h : OwnE w lo hi (.slice (some ⟨g, 0, none⟩) n c) es) (hk : k < es.length) (e : Ent) (u x : Value) (hu : Own w hi hi2 u e.seen) (hx : Own w hi hi2 x e.shown) (hd : Dj u x) (hl : lo ≤ hi) (hh : hi ≤ hi2) :
    OwnE (wEnt w g (k * 5) e u x) lo hi2 (.slice (some ⟨g, 0, none⟩) n c) (es.set k e) := by
  rcases h with ⟨h, _⟩ | ⟨g', cap, cur, U, V, e0, a1, a2, hg, c1, c2, c3, hj, hdj⟩
  · cases h
  · injection e0 with e1 e2 e3
    injection e1 with e1
    injection e1 with e1
    subst e1 e2 e3
    have hother : ∀ {l h' : Nat} {y : Value} {s : List Int}, Own w l h' y s → Own (wEnt w g (k * 5) e u x) l h' y s := fun {l h' y s} ho =>
      ho.keep fun q hq _ _ _ => setEnt_other w g (k * 5) q e u x (fun e' => ho.ne_ent hg (by rw [hq, e']))
    refine .inr ⟨g, c, setEntCells cur (k * 5) e u x, fun j => if j = k then u else U j, fun j => if j = k then x else V j, by rw [List.length_set], a1, by omega, setEnt_heap hg _ _ _ _, by rw [List.length_set]; exact c1, c2, by rw [setEntCells_size]; exact c3, ?_, ?_⟩
    · intro j hjl
      rw [List.length_set] at hjl
      by_cases hjk : j = k
      · subst hjk
        simp only [if_true, List.getElem_set_self]
        exact ⟨setEntCells_same _ _ _ _ _ (by omega), (hother hu).mono hl (Nat.le_refl _), (hother hx).mono hl (Nat.le_refl _)⟩
      · simp only [if_neg hjk, List.getElem_set_ne (Ne.symm hjk)]
        obtain ⟨⟨x0, x1, x2, x3, x4⟩, p1, p2⟩ := hj j hjl
        have ho : ∀ r, r < 5 → (setEntCells cur (k * 5) e u x)[j * 5 + r]? = cur[j * 5 + r]? := fun r hr => setEntCells_other _ _ _ _ _ _ (by omega)
        exact ⟨⟨(ho 0 (by omega)).trans x0, (ho 1 (by omega)).trans x1, (ho 2 (by omega)).trans x2, (ho 3 (by omega)).trans x3, (ho 4 (by omega)).trans x4⟩, (hother p1).mono (Nat.le_refl _) hh, (hother p2).mono (Nat.le_refl _) hh⟩
    · rw [List.length_set]
      have hn1 : ∀ j, j < es.length → Dj (U j) u ∧ Dj (U j) x ∧ Dj (V j) u ∧ Dj (V j) x := fun j hjl =>
        ⟨Dj.of_lt (hj j hjl).2.1 hu (Nat.le_refl _), Dj.of_lt (hj j hjl).2.1 hx (Nat.le_refl _), Dj.of_lt (hj j hjl).2.2 hu (Nat.le_refl _), Dj.of_lt (hj j hjl).2.2 hx (Nat.le_refl _)⟩
      have sy : ∀ {p q : Value}, Dj p q → Dj q p := fun {p q} h => by
        unfold Dj at *
        cases hq : q.ownBlock with
        | none => exact .inl rfl
        | some z =>
          right
          rcases h with h | h
          · rw [h]; simp
          · rw [← hq]; exact fun e => h e.symm
      refine ⟨fun i hi' => ?_, fun i j hi' hj' hne => ?_⟩
      · by_cases hik : i = k
        · simp only [hik, if_true]; exact hd
        · simp only [if_neg hik]; exact hdj.1 i hi'
      · by_cases hik : i = k
        · have hjk : j ≠ k := fun h => hne (by rw [hik, h])
          simp only [hik, if_true, if_neg hjk]
          have := hn1 j hj'
          exact ⟨sy this.1, sy this.2.2.1, sy this.2.1, sy this.2.2.2⟩
        · by_cases hjk : j = k
          · simp only [hjk, if_true, if_neg hik]
            have := hn1 i hi'
            exact ⟨this.1, this.2.1, this.2.2.1, this.2.2.2⟩
          · simp only [if_neg hik, if_neg hjk]; exact hdj.2 i j hi' hj' hne
end

/-- an entry of zeros, and the first k of es with zeros behind -/
def ent0 : Ent := ⟨0, 0, 0, [], []⟩
def tkE (es : List Ent) (k : Nat) : List Ent := es.take k ++ List.replicate (es.length - k) ent0
theorem tkE_zero (es : List Ent) : tkE es 0 = List.replicate es.length ent0 := by simp [tkE]
theorem tkE_all (es : List Ent) : tkE es es.length = es := by simp [tkE]
theorem tkE_length (es : List Ent) (k : Nat) (h : k ≤ es.length) : (tkE es k).length = es.length := by simp [tkE]; omega
theorem tkE_succ (es : List Ent) (k : Nat) (h : k < es.length) : (tkE es k).set k es[k] = tkE es (k + 1) := by
  unfold tkE
  have hl : (es.take k).length = k := by simp; omega
  rw [List.set_append_right _ _ (by omega), hl, Nat.sub_self]
  obtain ⟨m, hm⟩ : ∃ m, es.length - k = m + 1 := ⟨es.length - k - 1, by omega⟩
  rw [hm, List.replicate_succ, List.set_cons_zero, List.take_succ_eq_append_getElem h, List.append_assoc, show es.length - (k + 1) = m from by omega]
  rfl

/-- how many values entries hold -/
def psum (es : List Ent) (k : Nat) : Nat := ((es.take k).map fun e => e.seen.length + e.shown.length).sum
def eszL (es : List Ent) : Nat := es.length + psum es es.length
theorem psum_zero (es : List Ent) : psum es 0 = 0 := by simp [psum]
theorem psum_succ (es : List Ent) (k : Nat) (h : k < es.length) : psum es (k + 1) = psum es k + (es[k].seen.length + es[k].shown.length) := by
  unfold psum; rw [List.take_succ_eq_append_getElem h, List.map_append, List.sum_append]; simp
theorem psum_le (es : List Ent) (k : Nat) : psum es k ≤ psum es es.length := by
  unfold psum
  rw [List.take_length]
  conv => rhs; rw [← List.take_append_drop k es]
  rw [List.map_append, List.sum_append]
  omega
theorem esz_len (es : List Ent) : es.length ≤ eszL es := by unfold eszL; omega
theorem esz_at (es : List Ent) (k : Nat) (h : k < es.length) : es[k].seen.length + es[k].shown.length ≤ eszL es := by
  have := psum_succ es k h; have := psum_le es (k + 1); unfold eszL; omega

theorem entInfo : (Try.prog.info? 49).map (fun i => (i.zero, i.size, i.bytes)) = some (some (.agg #[.int .i64 0, .int .i64 0, .int .i64 0, .slice none 0 0, .slice none 0 0]), 5, 72) := by kernel_rfl

/-- a slice just made with room for n entries -/
theorem made_ent (n k r : Nat) (hk : k < n) (hr : r < 5) : (madeCells #[.int .i64 0, .int .i64 0, .int .i64 0, .slice none 0 0, .slice none 0 0] (n * 5))[k * 5 + r]? = #[Value.int .i64 0, .int .i64 0, .int .i64 0, .slice none 0 0, .slice none 0 0][r]? := by
  have h5 : (k * 5 + r) % 5 = r := by omega
  have hlt : k * 5 + r < n * 5 := by omega
  simp only [madeCells, Array.getElem?_map, Array.getElem?_range, hlt, if_true, Option.map_some]
  have hs : (#[Value.int .i64 0, .int .i64 0, .int .i64 0, .slice none 0 0, .slice none 0 0] : Array Value).size = 5 := rfl
  rw [hs, h5]
  match r, hr with
  | 0, _ => rfl
  | 1, _ => rfl
  | 2, _ => rfl
  | 3, _ => rfl
  | 4, _ => rfl

theorem OwnE.made {lo hi : Nat} (w : World) (n : Nat) (hl : n ≤ maxLen) (hlo : lo ≤ w.heap.size) (hhi : w.heap.size < hi) :
    OwnE (w.alloc (.cells (madeCells #[.int .i64 0, .int .i64 0, .int .i64 0, .slice none 0 0, .slice none 0 0] (n * 5)) 49)) lo hi (.slice (some ⟨w.heap.size, 0, none⟩) n n) (List.replicate n ent0) := by
  refine .inr ⟨w.heap.size, n, _, fun _ => .slice none 0 0, fun _ => .slice none 0 0, by rw [List.length_replicate], hlo, hhi, heap_alloc_new w _, by simp, hl, by rw [size_madeCells], ?_, ?_⟩
  · intro j hj
    rw [List.length_replicate] at hj
    have m := fun r hr => made_ent n j r hj hr
    rw [List.getElem_replicate]
    exact ⟨⟨m 0 (by omega), m 1 (by omega), m 2 (by omega), m 3 (by omega), m 4 (by omega)⟩, Own.nil, Own.nil⟩
  · exact ⟨fun _ _ => .inl rfl, fun _ _ _ _ _ => ⟨.inl rfl, .inl rfl, .inl rfl, .inl rfl⟩⟩

section
variable {ops : Array Oper} {rest : List Oper} {o : Oper} {a : Act} {Q : Exit → Act → World → Prop} {w : World}
theorem wp_make_ents (hgd : o.guard = none) (l k : Operand) (ho : o.op = Op.makeSlice 24 l k) (n : Nat) (hl : a.eval l = .int .i64 (n : Int)) (hk : a.eval k = .int .i64 (n : Int)) (hn : n ≤ 1099511627776)
    (h : ∀ w', OwnE w' w.heap.size w'.heap.size (.slice (some ⟨w.heap.size, 0, none⟩) n n) (List.replicate n ent0) → Below w.heap.size w w' → w'.heap.size = w.heap.size + 1 → wpList Try.prog ops Q rest (a.put o.dst (.slice (some ⟨w.heap.size, 0, none⟩) n n)) w') : wpList Try.prog ops Q (o :: rest) a w := by
  obtain ⟨i0, hi0, hz0, hz1, hz2⟩ := info_parts entInfo
  refine wpList_plain hgd fun K hK => ?_
  have hr := run_make (P := Try.prog) w _ _ i0 _ Try.underlying24 hi0 hz0 .i64 .i64 n n (by omega) (Int.le_refl _) (by rw [hz2]; omega) (by omega)
  simp only [Int.toNat_natCast, hz1] at hr
  unfold Oper.wp
  simp [execOp, ho, hl, hk, hr, Result.andThen]
  refine hK _ _ (h _ ?_ ((Below.refl _ _).alloc (Nat.le_refl _) _) (by simp))
  have hm := OwnE.made (lo := w.heap.size) (hi := w.heap.size + 1) w n (by simp [maxLen]; omega) (Nat.le_refl _) (by omega)
  rw [show (Value.agg #[.int .i64 0, .int .i64 0, .int .i64 0, .slice none 0 0, .slice none 0 0]).cells = #[.int .i64 0, .int .i64 0, .int .i64 0, .slice none 0 0, .slice none 0 0] from rfl]
  simpa using hm
end

end Go.Proofs.Yteajjbfecpffeaa
