/-
  Words for memory: slices of logs (slices of slices of entries), read and made. No statement of the program stands here.
-/
import Derived.Test.YteajjbfecpffeaaLog
namespace Go.Proofs.Yteajjbfecpffeaa
open Go.RowKit
set_option linter.unusedVariables false
set_option linter.unusedSimpArgs false

/-- the slice value with address A reads as the logs xss -/
def RdEE (w : World) (lo hi : Nat) (A : Option Addr) (xss : List (List Ent)) : Prop :=
  0 < xss.length → ∃ b off, A = some ⟨b, off, none⟩ ∧ lo ≤ b ∧ b < hi ∧ ∀ j (hj : j < xss.length), ∃ A1 c1, w.cell? ⟨b, off + j, none⟩ = some (.slice A1 xss[j].length c1) ∧ RdE w lo hi A1 xss[j] ∧ xss[j].length ≤ c1

section
variable {w w' : World} {lo hi lo' hi' B : Nat} {A : Option Addr} {es : List (List Ent)}
theorem RdEE.nil : RdEE w lo hi A [] := fun h => absurd h (by simp)
theorem RdEE.mono (h : RdEE w lo hi A es) (h1 : lo' ≤ lo) (h2 : hi ≤ hi') : RdEE w lo' hi' A es := fun hp => by
  obtain ⟨b, off, e, a1, a2, hc⟩ := h hp
  refine ⟨b, off, e, by omega, by omega, fun j hj => ?_⟩
  obtain ⟨A1, c1, x, r, hcap⟩ := hc j hj
  exact ⟨A1, c1, x, r.mono h1 h2, hcap⟩
theorem RdEE.std (h : RdEE w lo hi A es) : RdEE w 0 w.heap.size A es := fun hp => by
  obtain ⟨b, off, e, _, _, hc⟩ := h hp
  refine ⟨b, off, e, Nat.zero_le _, ?_, fun j hj => ?_⟩
  · obtain ⟨A1, c1, x, r⟩ := hc 0 hp
    exact World.block_lt_of_cell? w _ x
  · obtain ⟨A1, c1, x, r, hcap⟩ := hc j hj
    exact ⟨A1, c1, x, r.std, hcap⟩
theorem RdEE.keep (h : RdEE w lo hi A es) (hk : ∀ b o, lo ≤ b → b < hi → b < w.heap.size → w'.cell? ⟨b, o, none⟩ = w.cell? ⟨b, o, none⟩) : RdEE w' lo hi A es := fun hp => by
  obtain ⟨b, off, e, a1, a2, hc⟩ := h hp
  refine ⟨b, off, e, a1, a2, fun j hj => ?_⟩
  obtain ⟨A1, c1, x, r, hcap⟩ := hc j hj
  exact ⟨A1, c1, (hk _ _ a1 a2 (World.block_lt_of_cell? w _ x)).trans x, r.keep hk, hcap⟩
theorem RdEE.below (h : RdEE w lo hi A es) (hb : Below B w w') (hB : hi ≤ B) : RdEE w' lo hi A es := h.keep fun b o _ h2 _ => hb.cell (p := ⟨b, o, none⟩) (by show b < B; omega)
theorem RdEE.st (h : RdEE w lo hi A es) (hb : Below w.heap.size w w') : RdEE w' lo hi A es := h.keep fun b o _ _ h3 => hb.cell (p := ⟨b, o, none⟩) h3
theorem RdEE.fr (h : RdEE w lo hi A es) (hf : Fr lo' hi' w w') (hd : hi ≤ lo' ∨ hi' ≤ lo) : RdEE w' lo hi A es :=
  h.keep fun b o h1 h2 h3 => World.cell?_of_block (w := w) (hf.block b h3 (by omega))
theorem RdEE.drew (h : RdEE w lo hi A es) : RdEE w.drew lo hi A es := h
theorem RdEE.drewN (h : RdEE w lo hi A es) (k : Nat) : RdEE (w.drewN k) lo hi A es := h
theorem RdEE.alloc (h : RdEE w lo hi A es) (o : Obj) : RdEE (w.alloc o) lo hi A es := h.keep fun b o' _ _ h3 => World.cell?_alloc_lt w o _ (by exact h3)
end

theorem OwnE.cap' {w : World} {lo hi n c : Nat} {A : Option Addr} {es : List Ent} (h : OwnE w lo hi (.slice A n c) es) : es.length ≤ c := by
  rcases h with ⟨e, rfl⟩ | ⟨g, cap, cur, U, V, e, _, _, _, c1, _⟩
  · simp
  · injection e with e1 e2 e3
    omega

/-- the first k of n logs have been made and lie in block g; the others are nil. The logs lie apart: log j in blocks from P j on and below P (j + 1). -/
def MadeEE (w : World) (lo hi g n : Nat) (es : List (List Ent)) (k : Nat) : Prop :=
  ∃ (cur : Array Value) (U : Nat → Value) (P : Nat → Nat), w.heap[g]? = some (.cells cur 24 (0, 0)) ∧ lo ≤ g ∧ g < P 0 ∧ P k ≤ hi ∧ cur.size = n ∧ (∀ j, j < k → P j ≤ P (j + 1)) ∧
    (∀ j (hj : j < es.length), j < k → cur[j]? = some (U j) ∧ OwnE w (P j) (P (j + 1)) (U j) es[j]) ∧ ∀ j, k ≤ j → j < n → cur[j]? = some (.slice none 0 0)

/-- the slice value v has been made by a call: a block of its own that holds logs of its own, that lie apart -/
def OwnEE (w : World) (lo hi : Nat) (v : Value) (es : List (List Ent)) : Prop :=
  ∃ g cap, v = .slice (some ⟨g, 0, none⟩) es.length cap ∧ es.length ≤ cap ∧ cap ≤ maxLen ∧ MadeEE w lo hi g cap es es.length

theorem mono_up {P : Nat → Nat} {k : Nat} (h : ∀ j, j < k → P j ≤ P (j + 1)) : ∀ i j, i ≤ j → j ≤ k → P i ≤ P j := by
  intro i j hij hjk
  induction j with
  | zero => obtain rfl : i = 0 := by omega
            exact Nat.le_refl _
  | succ j ih =>
    by_cases e : i = j + 1
    · subst e; exact Nat.le_refl _
    · exact Nat.le_trans (ih (by omega) (by omega)) (h j (by omega))

section
variable {w w' : World} {lo hi lo' hi' B g n k : Nat} {v : Value} {es : List (List Ent)}
theorem MadeEE.keep (h : MadeEE w lo hi g n es k) (hk : ∀ b, lo ≤ b → b < hi → b < w.heap.size → w'.heap[b]? = w.heap[b]?) (hke : k ≤ es.length) : MadeEE w' lo hi g n es k := by
  obtain ⟨cur, U, P, hg, a1, a2, a3, hs, hm, hj, hr⟩ := h
  have up := mono_up hm
  have h0 := up 0 k (by omega) (Nat.le_refl _)
  refine ⟨cur, U, P, (hk g a1 (by omega) (Array.getElem?_eq_some_iff.1 hg).1).trans hg, a1, a2, a3, hs, hm, fun j h h' => ⟨(hj j h h').1, (hj j h h').2.keep fun b b1 b2 b3 => ?_⟩, hr⟩
  have := up 0 j (by omega) (by omega)
  have := up (j + 1) k (by omega) (Nat.le_refl _)
  exact hk b (by omega) (by omega) b3
theorem MadeEE.st (h : MadeEE w lo hi g n es k) (hb : Below w.heap.size w w') (hke : k ≤ es.length) : MadeEE w' lo hi g n es k := h.keep (fun b _ _ h3 => hb.block b h3) hke
theorem MadeEE.mono (h : MadeEE w lo hi g n es k) (h1 : lo' ≤ lo) (h2 : hi ≤ hi') : MadeEE w lo' hi' g n es k := by
  obtain ⟨cur, U, P, hg, a1, a2, a3, hs, hm, hj, hr⟩ := h
  exact ⟨cur, U, P, hg, by omega, a2, by omega, hs, hm, hj, hr⟩
theorem MadeEE.at_ (h : MadeEE w lo hi g n es k) (j : Nat) (hj : j < n) (hke : k ≤ es.length) (hl : j < k ∨ k ≤ j) : g < w.heap.size ∧ (∃ x, w.cell? ⟨g, j, none⟩ = some x) ∧ w.frozen? ⟨g, j, none⟩ = false := by
  obtain ⟨cur, U, P, hg, a1, a2, a3, hs, hm, hj', hr⟩ := h
  have hc : ∀ i, w.cell? ⟨g, i, none⟩ = cur[i]? := fun i => cell_of_row w g i cur _ _ hg
  refine ⟨(Array.getElem?_eq_some_iff.1 hg).1, ⟨cur[j]'(by omega), (hc j).trans (by simp [hs, hj])⟩, by simp [World.frozen?, hg]⟩
/-- a log just made is stored at place k -/
theorem MadeEE.stored (h : MadeEE w lo hi g n es k) (hk : k < es.length) (hn : es.length = n) {hi2 : Nat} {u : Value} (hu : OwnE w hi hi2 u es[k]) (hh : hi ≤ hi2) : MadeEE (w.setCell ⟨g, k, none⟩ u) lo hi2 g n es (k + 1) := by
  obtain ⟨cur, U, P, hg, a1, a2, a3, hs, hm, hj, hr⟩ := h
  have up := mono_up hm
  have h0k := up 0 k (by omega) (Nat.le_refl _)
  have hset : ∀ b, b ≠ g → (w.setCell ⟨g, k, none⟩ u).heap[b]? = w.heap[b]? := fun b hb => Below.heap_setCell w ⟨g, k, none⟩ u b hb
  refine ⟨cur.setIfInBounds k u, fun j => if j = k then u else U j, fun j => if j ≤ k then P j else hi2, (show Bk w g _ cur from hg).set_ k u, a1, by simpa using a2, by dsimp only; rw [if_neg (by omega)]; exact Nat.le_refl _, by simpa using hs, ?_, ?_, ?_⟩
  · intro j hjk
    dsimp only
    by_cases e : j + 1 ≤ k
    · rw [if_pos (by omega), if_pos e]; exact hm j (by omega)
    · rw [if_pos (by omega), if_neg e]
      have := up j k (by omega) (Nat.le_refl _)
      omega
  · intro j hjl hjk
    dsimp only
    by_cases e : j = k
    · subst e
      rw [if_pos rfl, if_pos (Nat.le_refl _), if_neg (by omega)]
      refine ⟨?_, (hu.mono a3 (Nat.le_refl _)).keep fun b b1 b2 b3 => hset b (by omega)⟩
      rw [Array.getElem?_setIfInBounds_self, if_pos (by omega)]
    · rw [if_neg e, if_pos (by omega), if_pos (by omega)]
      obtain ⟨x, y⟩ := hj j hjl (by omega)
      have := up 0 j (by omega) (by omega)
      exact ⟨by rw [Array.getElem?_setIfInBounds_ne (by omega)]; exact x, y.keep fun b b1 b2 b3 => hset b (by omega)⟩
  · intro j hjk hjn
    rw [Array.getElem?_setIfInBounds_ne (by omega)]
    exact hr j (by omega) hjn
theorem OwnEE.keep (h : OwnEE w lo hi v es) (hk : ∀ b, lo ≤ b → b < hi → b < w.heap.size → w'.heap[b]? = w.heap[b]?) : OwnEE w' lo hi v es := by
  obtain ⟨g, cap, e, c1, c2, hm⟩ := h
  exact ⟨g, cap, e, c1, c2, hm.keep hk (Nat.le_refl _)⟩
theorem OwnEE.mono (h : OwnEE w lo hi v es) (h1 : lo' ≤ lo) (h2 : hi ≤ hi') : OwnEE w lo' hi' v es := by
  obtain ⟨g, cap, e, c1, c2, hm⟩ := h
  exact ⟨g, cap, e, c1, c2, hm.mono h1 h2⟩
theorem OwnEE.st (h : OwnEE w lo hi v es) (hb : Below w.heap.size w w') : OwnEE w' lo hi v es := h.keep fun k _ _ h3 => hb.block k h3
theorem OwnEE.below (h : OwnEE w lo hi v es) (hb : Below B w w') (hB : hi ≤ B ∨ w.heap.size ≤ B) : OwnEE w' lo hi v es := h.keep fun k _ h2 h3 => hb.block k (by omega)
theorem OwnEE.fr (h : OwnEE w lo hi v es) (hf : Fr lo' hi' w w') (hd : hi ≤ lo' ∨ hi' ≤ lo) : OwnEE w' lo hi v es := h.keep fun k h1 h2 h3 => hf.block k h3 (by omega)
theorem OwnEE.drew (h : OwnEE w lo hi v es) : OwnEE w.drew lo hi v es := h
theorem OwnEE.drewN (h : OwnEE w lo hi v es) (k : Nat) : OwnEE (w.drewN k) lo hi v es := h
theorem OwnEE.alloc (h : OwnEE w lo hi v es) (o : Obj) : OwnEE (w.alloc o) lo hi v es := h.keep fun k _ _ h3 => Below.heap_alloc w o k h3
theorem OwnEE.rd (h : OwnEE w lo hi v es) : ∃ A c, v = .slice A es.length c ∧ RdEE w lo hi A es ∧ c ≤ maxLen := by
  obtain ⟨g, cap, rfl, c1, c2, cur, U, P, hg, a1, a2, a3, hs, hm, hj, hr⟩ := h
  have up := mono_up hm
  have h0 := up 0 es.length (by omega) (Nat.le_refl _)
  refine ⟨_, cap, rfl, fun hp => ⟨g, 0, rfl, a1, by omega, fun j h => ?_⟩, c2⟩
  obtain ⟨x, y⟩ := hj j h h
  obtain ⟨A1, d1, e1, r1, _⟩ := y.rd
  have hcap : es[j].length ≤ d1 := by rw [e1] at y; exact y.cap'
  have q1 := up 0 j (by omega) (by omega)
  have q2 := up (j + 1) es.length (by omega) (Nat.le_refl _)
  have hc : ∀ i, w.cell? ⟨g, i, none⟩ = cur[i]? := fun i => cell_of_row w g i cur _ _ hg
  rw [Nat.zero_add]
  exact ⟨A1, d1, (hc _).trans (x.trans (by rw [e1])), r1.mono (by omega) (by omega), hcap⟩
theorem OwnEE.rd' {A : Option Addr} {n c : Nat} (h : OwnEE w lo hi (.slice A n c) es) : RdEE w lo hi A es := by
  obtain ⟨A', c', he, hr, _⟩ := h.rd
  injection he with h1 h2 h3
  subst h1
  exact hr
end

def esszL (es : List (List Ent)) : Nat := es.length + (es.map eszL).sum
def ppsum (es : List (List Ent)) (k : Nat) : Nat := ((es.take k).map eszL).sum
theorem ppsum_zero (es : List (List Ent)) : ppsum es 0 = 0 := by simp [ppsum]
theorem ppsum_succ (es : List (List Ent)) (k : Nat) (h : k < es.length) : ppsum es (k + 1) = ppsum es k + eszL es[k] := by
  unfold ppsum; rw [List.take_succ_eq_append_getElem h, List.map_append, List.sum_append]; simp
theorem ppsum_all (es : List (List Ent)) : ppsum es es.length = (es.map eszL).sum := by simp [ppsum]
theorem ppsum_le (es : List (List Ent)) (k : Nat) : ppsum es k ≤ ppsum es es.length := by
  unfold ppsum
  rw [List.take_length]
  conv => rhs; rw [← List.take_append_drop k es]
  rw [List.map_append, List.sum_append]
  omega
theorem essz_eq (es : List (List Ent)) : esszL es = es.length + ppsum es es.length := by rw [ppsum_all]; rfl
theorem essz_len (es : List (List Ent)) : es.length ≤ esszL es := by unfold esszL; omega
theorem essz_at (es : List (List Ent)) (k : Nat) (h : k < es.length) : eszL es[k] ≤ esszL es := by
  have := ppsum_succ es k h; have := ppsum_le es (k + 1); have := essz_eq es; omega

theorem logsTI : (Try.prog.info? 24).map (fun i => (i.zero, i.size, i.bytes)) = some (some (.slice none 0 0), 1, 24) := by kernel_rfl

section
variable {ops : Array Oper} {rest : List Oper} {o : Oper} {a : Act} {Q : Exit → Act → World → Prop} {w : World}
theorem wp_make_logs (hgd : o.guard = none) (l k : Operand) (ho : o.op = Op.makeSlice 32 l k) (es : List (List Ent)) (hl : a.eval l = .int .i64 (es.length : Int)) (hk : a.eval k = .int .i64 (es.length : Int)) (hn : es.length ≤ 1099511627776)
    (h : ∀ w', MadeEE w' w.heap.size w'.heap.size w.heap.size es.length es 0 → Below w.heap.size w w' → w'.heap.size = w.heap.size + 1 → wpList Try.prog ops Q rest (a.put o.dst (.slice (some ⟨w.heap.size, 0, none⟩) es.length es.length)) w') : wpList Try.prog ops Q (o :: rest) a w := by
  obtain ⟨i0, hi0, hz0, hz1, hz2⟩ := info_parts logsTI
  refine wpList_plain hgd fun K hK => ?_
  have hr := run_make (P := Try.prog) w _ _ i0 _ Try.underlying32 hi0 hz0 .i64 .i64 es.length es.length (by omega) (Int.le_refl _) (by rw [hz2]; omega) (by omega)
  simp only [Int.toNat_natCast, hz1] at hr
  unfold Oper.wp
  simp [execOp, ho, hl, hk, hr, Result.andThen]
  refine hK _ _ (h _ ?_ ((Below.refl _ _).alloc (Nat.le_refl _) _) (by simp))
  refine ⟨_, fun _ => undef, fun _ => w.heap.size + 1, heap_alloc_new w _, Nat.le_refl _, Nat.lt_succ_self _, by simp, by rw [size_madeCells], fun j hj => absurd hj (by omega), fun j _ hj => absurd hj (by omega), fun j _ hj => ?_⟩
  simp [madeCells, hj, Value.cells, Nat.mod_one]
end

end Go.Proofs.Yteajjbfecpffeaa
