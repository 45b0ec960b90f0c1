/-
  Contracts and plain laws that the walk uses, several texts in one. The conditions are named ahead of each.
-/
import Derived.Test.YtjhbffndiaggmaaGreatDoorBL18

/-
  Words for memory: entries that a call has made, row by row, each with two slices of its own; the passage between such rows and logs. No statement of the program stands here.
-/
namespace Go.Proofs.YtjhbffndiaggmaaGreatDoor
open Go.RowKit
set_option linter.unusedVariables false

theorem Dj.sy {p q : Value} (h : Dj p q) : Dj q p := by
  unfold Dj at *
  cases hq : q.ownBlock with
  | none => exact .inl rfl
  | some z =>
    right
    rcases h with h | h
    · rw [h]; simp
    · rw [← hq]; exact fun e => h e.symm
/-- no slice of one row shares a block with a slice of the other -/
def DjR (r s : List Value) : Prop := ∀ u ∈ r, ∀ v ∈ s, Dj u v
/-- the row r is entry e, its two slices made by a call, in blocks of their own from lo on and below hi -/
def EntOwn (w : World) (lo hi : Nat) (e : Ent) (r : List Value) : Prop :=
  ∃ u v, r = [.int .i64 e.time, .int .i64 e.msg, .int .i64 e.part, u, v] ∧ Own w lo hi u e.seen ∧ Own w lo hi v e.shown ∧ Dj u v
/-- rows, one an entry, no two of which share memory -/
structure EntsOwn (w : World) (lo hi : Nat) (es : List Ent) (rows : List (List Value)) : Prop where
  len : rows.length = es.length
  ent : ∀ j (h : j < es.length) (h' : j < rows.length), EntOwn w lo hi es[j] rows[j]
  dj : rows.Pairwise DjR

section
variable {w w' : World} {lo hi lo' hi' B : Nat} {e : Ent} {r : List Value} {es es2 : List Ent} {rows rows2 : List (List Value)} {v : Value}
theorem EntOwn.keep (h : EntOwn w lo hi e r) (hk : ∀ k, lo ≤ k → k < hi → k < w.heap.size → w'.heap[k]? = w.heap[k]?) : EntOwn w' lo hi e r := by
  obtain ⟨u, v, rfl, a, b, d⟩ := h
  exact ⟨u, v, rfl, a.keep fun k _ => hk k, b.keep fun k _ => hk k, d⟩
theorem EntOwn.mono (h : EntOwn w lo hi e r) (h1 : lo' ≤ lo) (h2 : hi ≤ hi') : EntOwn w lo' hi' e r := by
  obtain ⟨u, v, rfl, a, b, d⟩ := h
  exact ⟨u, v, rfl, a.mono h1 h2, b.mono h1 h2, d⟩
theorem EntOwn.row (h : EntOwn w lo hi e r) : EntRow w lo hi e r := by
  obtain ⟨u, v, rfl, a, b, d⟩ := h
  obtain ⟨A1, c1, rfl, r1, _⟩ := a.rd
  obtain ⟨A2, c2, rfl, r2, _⟩ := b.rd
  exact ⟨A1, c1, A2, c2, rfl, r1, r2⟩
theorem EntOwn.dj_lt {l h : Nat} {e2 : Ent} {r2 : List Value} (h1 : EntOwn w lo hi e r) (h2 : EntOwn w' l h e2 r2) (hd : hi ≤ l) : DjR r r2 := by
  obtain ⟨u, v, rfl, a, b, _⟩ := h1
  obtain ⟨u2, v2, rfl, a2, b2, _⟩ := h2
  have key : ∀ {p q : Value} {s t : List Int}, Own w lo hi p s → Own w' l h q t → Dj p q := fun {p q s t} hp hq => by
    cases hb : p.ownBlock with
    | none => exact .inl hb
    | some z =>
      right
      intro e
      have g1 := hp.2 z hb
      have g2 := (hq.lt z (by rw [← e, hb])).1
      omega
  intro x hx y hy
  simp only [List.mem_cons, List.not_mem_nil, or_false] at hx hy
  rcases hx with rfl | rfl | rfl | rfl | rfl
  · exact .inl rfl
  · exact .inl rfl
  · exact .inl rfl
  all_goals
    rcases hy with rfl | rfl | rfl | rfl | rfl
    · exact Dj.sy (.inl rfl)
    · exact Dj.sy (.inl rfl)
    · exact Dj.sy (.inl rfl)
    · first | exact key a a2 | exact key b a2
    · first | exact key a b2 | exact key b b2
theorem EntsOwn.nil : EntsOwn w lo hi [] [] := ⟨rfl, fun j h => absurd h (by simp), List.Pairwise.nil⟩
theorem EntsOwn.keep (h : EntsOwn w lo hi es rows) (hk : ∀ k, lo ≤ k → k < hi → k < w.heap.size → w'.heap[k]? = w.heap[k]?) : EntsOwn w' lo hi es rows := ⟨h.len, fun j a b => (h.ent j a b).keep hk, h.dj⟩
theorem EntsOwn.mono (h : EntsOwn w lo hi es rows) (h1 : lo' ≤ lo) (h2 : hi ≤ hi') : EntsOwn w lo' hi' es rows := ⟨h.len, fun j a b => (h.ent j a b).mono h1 h2, h.dj⟩
theorem EntsOwn.st (h : EntsOwn w lo hi es rows) (hb : Below w.heap.size w w') : EntsOwn w' lo hi es rows := h.keep fun k _ _ h3 => hb.block k h3
theorem EntsOwn.below (h : EntsOwn w lo hi es rows) (hb : Below B w w') (hB : hi ≤ B) : EntsOwn w' lo hi es rows := h.keep fun k _ h2 _ => hb.block k (by omega)
theorem EntsOwn.alloc (h : EntsOwn w lo hi es rows) (o : Obj) : EntsOwn (w.alloc o) lo hi es rows := h.keep fun k _ _ h3 => Below.heap_alloc w o k h3
theorem EntsOwn.rws (h : EntsOwn w lo hi es rows) : EntRows w lo hi es rows := ⟨h.len, fun j a b => (h.ent j a b).row⟩
theorem EntsOwn.snoc (h : EntsOwn w lo hi es rows) (hr : EntOwn w lo hi e r) (hd : ∀ s ∈ rows, DjR s r) : EntsOwn w lo hi (es ++ [e]) (rows ++ [r]) := by
  refine ⟨by simp [h.len], fun j h1 h2 => ?_, ?_⟩
  · rw [List.getElem_append, List.getElem_append]
    have := h.len
    by_cases hj : j < es.length
    · rw [dif_pos hj, dif_pos (by omega)]; exact h.ent j hj (by omega)
    · rw [dif_neg hj, dif_neg (by omega)]; simpa using hr
  · rw [List.pairwise_append]
    exact ⟨h.dj, List.pairwise_singleton _ _, fun a ha b hb => by rw [List.mem_singleton.1 hb]; exact hd a ha⟩
theorem EntsOwn.append {l h : Nat} (h1 : EntsOwn w lo hi es rows) (h2 : EntsOwn w l h es2 rows2) (hd : hi ≤ l) (ha : lo ≤ l) (hb : hi ≤ h) : EntsOwn w lo h (es ++ es2) (rows ++ rows2) := by
  refine ⟨by simp [h1.len, h2.len], fun j h3 h4 => ?_, ?_⟩
  · rw [List.getElem_append, List.getElem_append]
    have e1 := h1.len
    have e2 := h2.len
    simp at h3 h4
    by_cases hj : j < es.length
    · rw [dif_pos hj, dif_pos (by omega)]; exact (h1.ent j hj (by omega)).mono (Nat.le_refl _) hb
    · rw [dif_neg hj, dif_neg (by omega)]
      have := (h2.ent (j - es.length) (by omega) (by omega)).mono ha (Nat.le_refl _)
      simp only [e1]
      exact this
  · rw [List.pairwise_append]
    refine ⟨h1.dj, h2.dj, fun a ha' b hb' => ?_⟩
    obtain ⟨i, hi', rfl⟩ := List.getElem_of_mem ha'
    obtain ⟨j, hj', rfl⟩ := List.getElem_of_mem hb'
    exact (h1.ent i (by rw [← h1.len]; exact hi') hi').dj_lt (h2.ent j (by rw [← h2.len]; exact hj') hj') hd
/-- rows and slices of a call's own: a log of its own -/
theorem EntsOwn.ownE (h : OwnR w lo hi 74 5 v rows) (he : EntsOwn w lo hi es rows) : OwnE w lo hi v es := by
  have hl := he.len
  rcases h.1.2 with ⟨rfl, hn⟩ | ⟨g, cap, cur, rfl, hb, hg, hnc, hcm, hsz, htk⟩
  · exact .inl ⟨rfl, List.eq_nil_of_length_eq_zero (by omega)⟩
  · have hlt := h.lt g rfl
    have hcell : ∀ j (hj : j < rows.length) i, i < 5 → cur[j * 5 + i]? = rows[j][i]? := fun j hj i hi' => by
      rw [← flat_at h.2.1 j i hj hi', ← htk, List.getElem?_take]
      have : j * 5 + i < rows.length * 5 := by omega
      rw [if_pos this]
      simp
    have hU : ∀ j (hj : j < es.length), ∃ u x, (rows[j]'(by omega)) = [.int .i64 es[j].time, .int .i64 es[j].msg, .int .i64 es[j].part, u, x] ∧ Own w lo hi u es[j].seen ∧ Own w lo hi x es[j].shown ∧ Dj u x := fun j hj => he.ent j hj (by omega)
    have hU' : ∀ j (hj : j < es.length), (rows[j]'(by omega)) = [.int .i64 es[j].time, .int .i64 es[j].msg, .int .i64 es[j].part, (rows.getD j []).getD 3 undef, (rows.getD j []).getD 4 undef] ∧ Own w lo hi ((rows.getD j []).getD 3 undef) es[j].seen ∧ Own w lo hi ((rows.getD j []).getD 4 undef) es[j].shown ∧ Dj ((rows.getD j []).getD 3 undef) ((rows.getD j []).getD 4 undef) := fun j hj => by
      obtain ⟨u, x, e1, a, b, d⟩ := hU j hj
      have e0 : rows.getD j [] = rows[j]'(by omega) := by rw [List.getD_eq_getElem?_getD, List.getElem?_eq_getElem (by omega)]; rfl
      rw [e0, e1]
      exact ⟨rfl, a, b, d⟩
    have hpw := List.pairwise_iff_getElem.1 he.dj
    have hm3 : ∀ j (hj : j < es.length), (rows.getD j []).getD 3 undef ∈ (rows[j]'(by omega)) ∧ (rows.getD j []).getD 4 undef ∈ (rows[j]'(by omega)) := fun j hj => by
      have := (hU' j hj).1
      rw [this]; simp
    refine .inr ⟨g, cap, cur, fun j => (rows.getD j []).getD 3 undef, fun j => (rows.getD j []).getD 4 undef, by rw [hl], hlt.1, hlt.2.1, hg, by omega, hcm, hsz, fun j hj => ?_, fun i hi' => (hU' i hi').2.2.2, fun i j hi' hj hne => ?_⟩
    · obtain ⟨e1, a, b, d⟩ := hU' j hj
      have hc : ∀ i, i < 5 → cur[j * 5 + i]? = [Value.int .i64 es[j].time, .int .i64 es[j].msg, .int .i64 es[j].part, (rows.getD j []).getD 3 undef, (rows.getD j []).getD 4 undef][i]? := fun i hi' => by
        have h0 := hcell j (by omega) i hi'
        rwa [e1] at h0
      exact ⟨⟨by simpa using hc 0 (by omega), by simpa using hc 1 (by omega), by simpa using hc 2 (by omega), by simpa using hc 3 (by omega), by simpa using hc 4 (by omega)⟩, a, b⟩
    · have p := hm3 i hi'
      have q := hm3 j hj
      rcases Nat.lt_or_gt_of_ne hne with hlt' | hlt'
      · have d := hpw i j (by omega) (by omega) hlt'
        exact ⟨d _ p.1 _ q.1, d _ p.1 _ q.2, d _ p.2 _ q.1, d _ p.2 _ q.2⟩
      · have d := hpw j i (by omega) (by omega) hlt'
        exact ⟨(d _ q.1 _ p.1).sy, (d _ q.2 _ p.1).sy, (d _ q.1 _ p.2).sy, (d _ q.2 _ p.2).sy⟩
/-- and back -/
theorem OwnE.rws (h : OwnE w lo hi v es) : ∃ rows, OwnR w lo hi 74 5 v rows ∧ EntsOwn w lo hi es rows := by
  rcases h with ⟨rfl, rfl⟩ | ⟨g, cap, cur, U, V, rfl, a1, a2, hg, c1, c2, c3, hj, hd⟩
  · exact ⟨[], OwnR.nil, EntsOwn.nil⟩
  · let f : Nat → List Value := fun j => if h : j < es.length then [.int .i64 es[j].time, .int .i64 es[j].msg, .int .i64 es[j].part, U j, V j] else []
    have hf : ∀ j (h : j < es.length), f j = [.int .i64 es[j].time, .int .i64 es[j].msg, .int .i64 es[j].part, U j, V j] := fun j h => by simp only [f, dif_pos h]
    have hlen : ((List.range es.length).map f).length = es.length := by simp
    have h5 : ∀ r ∈ (List.range es.length).map f, r.length = 5 := fun r hr => by
      obtain ⟨i, hi1, rfl⟩ := List.mem_map.1 hr
      rw [hf i (List.mem_range.1 hi1)]; rfl
    have hfl := flat_len h5
    have hat : ∀ j (hj : j < ((List.range es.length).map f).length), ((List.range es.length).map f)[j] = f j := fun j hj => by simp
    have hin : ∀ i (hi' : i < es.length) x, x ∈ f i → x.ownBlock = none ∨ x = U i ∨ x = V i := fun i hi' x hx => by
      rw [hf i hi'] at hx
      simp only [List.mem_cons, List.not_mem_nil, or_false] at hx
      rcases hx with rfl | rfl | rfl | rfl | rfl
      · exact .inl rfl
      · exact .inl rfl
      · exact .inl rfl
      · exact .inr (.inl rfl)
      · exact .inr (.inr rfl)
    refine ⟨(List.range es.length).map f, ⟨⟨by rw [hfl], .inr ⟨g, cap, cur, by rw [hlen], a1, hg, by rw [hlen]; exact c1, c2, c3, ?_⟩⟩, h5, fun k hk => ?_⟩, hlen, fun j h1 h2 => ?_, ?_⟩
    · apply List.ext_getElem?
      intro i
      rw [List.getElem?_take]
      by_cases hi' : i < es.length * 5
      · rw [if_pos (by rw [hlen]; exact hi')]
        have hq : i / 5 < es.length := (Nat.div_lt_iff_lt_mul (by decide)).2 hi'
        have hm : i % 5 < 5 := Nat.mod_lt _ (by decide)
        have e : i = i / 5 * 5 + i % 5 := by omega
        have h3 := flat_at h5 (i / 5) (i % 5) (by rw [hlen]; exact hq) hm
        rw [← e, hat, hf _ hq] at h3
        rw [h3]
        obtain ⟨⟨x0, x1, x2, x3, x4⟩, _⟩ := hj (i / 5) hq
        have hcc : ∀ k, k < 5 → cur.toList[i / 5 * 5 + k]? = [Value.int .i64 es[i / 5].time, .int .i64 es[i / 5].msg, .int .i64 es[i / 5].part, U (i / 5), V (i / 5)][k]? := fun k hk => by
          match k, hk with
          | 0, _ => simpa using x0
          | 1, _ => simpa using x1
          | 2, _ => simpa using x2
          | 3, _ => simpa using x3
          | 4, _ => simpa using x4
        conv => lhs; rw [e]
        exact hcc _ hm
      · rw [if_neg (by rw [hlen]; exact hi'), List.getElem?_eq_none (by rw [hfl, hlen]; omega)]
    · simp [Value.ownBlock] at hk; omega
    · rw [hat, hf j h1]
      exact ⟨U j, V j, rfl, (hj j h1).2.1, (hj j h1).2.2, hd.1 j h1⟩
    · rw [List.pairwise_iff_getElem]
      intro i j hi' hj' hij x hx y hy
      rw [hat] at hx hy
      rw [hlen] at hi' hj'
      have dd := hd.2 i j hi' hj' (by omega)
      rcases hin i hi' x hx with h0 | rfl | rfl
      · exact .inl h0
      · rcases hin j hj' y hy with h0 | rfl | rfl
        · exact Dj.sy (.inl h0)
        · exact dd.1
        · exact dd.2.1
      · rcases hin j hj' y hy with h0 | rfl | rfl
        · exact Dj.sy (.inl h0)
        · exact dd.2.2.1
        · exact dd.2.2.2
end
end Go.Proofs.YtjhbffndiaggmaaGreatDoor

/-
  Words for memory: what a growing slice of structs leaves alone of slices of integers. No statement of the program stands here.
-/
namespace Go.Proofs.YtjhbffndiaggmaaGreatDoor
open Go.RowKit Go.ChangeShapes Go.WideShapes
set_option linter.unusedVariables false
set_option linter.unusedSimpArgs false

section
variable {w w' : World} {lo hi lo' hi' sz sz' : Nat} {t t' : TypeId} {v v' : Value} {rows rows' : List (List Value)}
/-- the block of such a slice: its type -/
theorem OwnR.blockT (h : OwnR w lo hi t sz v rows) : ∀ k, v.ownBlock = some k → ∃ cur, w.heap[k]? = some (.cells cur t (0, 0)) := fun k hk => by
  rcases h.1.2 with ⟨rfl, _⟩ | ⟨g, cap, cur, rfl, hb, hg, _⟩
  · simp [Value.ownBlock] at hk
  · obtain rfl : g = k := by simpa [Value.ownBlock] using hk
    exact ⟨cur, hg⟩
/-- what is appended to a slice of another type leaves it alone -/
theorem OwnR.keepT (h : OwnR w lo hi t sz v rows) (h' : OwnR w lo' hi' t' sz' v' rows') (hg : w.grownBy w' v'.ownBlock) (hne : t' ≠ t) : OwnR w' lo hi t sz v rows :=
  h.keep fun k hk _ _ hlt => hg.block k hlt (fun e => by
    obtain ⟨c1, e1⟩ := h.blockT k hk
    obtain ⟨c2, e2⟩ := h'.blockT k e.symm
    rw [e1] at e2
    injection e2 with e2
    injection e2 with _ e2 _
    exact hne e2.symm)
end
section
variable {w w' : World} {lo hi lo' hi' sz' : Nat} {u : Value} {zs : List Int} {e : Ent} {r : List Value} {es : List Ent} {rows rows' : List (List Value)} {v' : Value} {t' : TypeId}
/-- blocks of integers are as they were: so are slices of integers that a call has made -/
def KeepI (w w' : World) : Prop := ∀ (k : Nat) (cs : Array Value), w.heap[k]? = some (Obj.cells cs 3 (0, 0)) → w'.heap[k]? = w.heap[k]?
theorem KeepI.grown (h' : OwnR w lo' hi' t' sz' v' rows') (hg : w.grownBy w' v'.ownBlock) (hne : t' ≠ 3) : KeepI w w' := fun k cs hk =>
  hg.block k (Array.getElem?_eq_some_iff.1 hk).1 (fun e => by
    obtain ⟨c2, e2⟩ := h'.blockT k e.symm
    rw [hk] at e2
    injection e2 with e2
    injection e2 with _ e2 _
    exact hne e2.symm)
theorem Own.keepI (h : Own w lo hi u zs) (hk : KeepI w w') : Own w' lo hi u zs := h.keep fun k hkk _ _ _ => by
  rcases h.1.2 with ⟨rfl, _⟩ | ⟨g, cap, cur, rfl, hb, hg, _⟩
  · simp [Value.ownBlock] at hkk
  · obtain rfl : g = k := by simpa [Value.ownBlock] using hkk
    exact hk _ _ hg
theorem EntOwn.keepI (h : EntOwn w lo hi e r) (hk : KeepI w w') : EntOwn w' lo hi e r := by
  obtain ⟨u, v, rfl, a, b, d⟩ := h
  exact ⟨u, v, rfl, a.keepI hk, b.keepI hk, d⟩
theorem EntsOwn.keepI (h : EntsOwn w lo hi es rows) (hk : KeepI w w') : EntsOwn w' lo hi es rows := ⟨h.len, fun j a b => (h.ent j a b).keepI hk, h.dj⟩
theorem EntOwn.len (h : EntOwn w lo hi e r) : r.length = 5 := h.row.len
theorem EntsOwn.mem {s : List Value} (h : EntsOwn w lo hi es rows) (hs : s ∈ rows) : ∃ e, EntOwn w lo hi e s := by
  obtain ⟨j, hj, rfl⟩ := List.getElem_of_mem hs
  exact ⟨_, h.ent j (by rw [← h.len]; exact hj) hj⟩
end

end Go.Proofs.YtjhbffndiaggmaaGreatDoor
