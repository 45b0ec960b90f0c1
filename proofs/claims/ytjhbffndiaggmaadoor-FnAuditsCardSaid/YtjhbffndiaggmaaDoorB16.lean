/-
  Contracts and plain laws that the walk uses, several texts in one. The conditions are named ahead of each.
-/
import Derived.Test.YtjhbffndiaggmaaDoorB14

/-
  Words for memory: entries that a call has made, row by row, each with two slices of its own; the passage between such rows and logs. No statement of the program stands here.
-/
namespace Go.Proofs.YtjhbffndiaggmaaDoor
open Go.RowKit
set_option linter.unusedVariables false

theorem Dj.sy {p q : Value} (h : Dj p q) : Dj q p := by
  unfold Dj at *
  cases hq : q.ownBlock with
  | none => exact .inl rfl
  | some z =>
    right
    rcases h with h | h
    · rw [h]; simp
    · rw [← hq]; exact fun e => h e.symm
/-- no slice of one row shares a block with a slice of the other -/
def DjR (r s : List Value) : Prop := ∀ u ∈ r, ∀ v ∈ s, Dj u v
/-- the row r is entry e, its two slices made by a call, in blocks of their own from lo on and below hi -/
def EntOwn (w : World) (lo hi : Nat) (e : Ent) (r : List Value) : Prop :=
  ∃ u v, r = [.int .i64 e.time, .int .i64 e.msg, .int .i64 e.part, u, v] ∧ Own w lo hi u e.seen ∧ Own w lo hi v e.shown ∧ Dj u v
/-- rows, one an entry, no two of which share memory -/
structure EntsOwn (w : World) (lo hi : Nat) (es : List Ent) (rows : List (List Value)) : Prop where
  len : rows.length = es.length
  ent : ∀ j (h : j < es.length) (h' : j < rows.length), EntOwn w lo hi es[j] rows[j]
  dj : rows.Pairwise DjR

section
variable {w w' : World} {lo hi lo' hi' B : Nat} {e : Ent} {r : List Value} {es es2 : List Ent} {rows rows2 : List (List Value)} {v : Value}
theorem EntOwn.keep (h : EntOwn w lo hi e r) (hk : ∀ k, lo ≤ k → k < hi → k < w.heap.size → w'.heap[k]? = w.heap[k]?) : EntOwn w' lo hi e r := by
  obtain ⟨u, v, rfl, a, b, d⟩ := h
  exact ⟨u, v, rfl, a.keep fun k _ => hk k, b.keep fun k _ => hk k, d⟩
theorem EntOwn.mono (h : EntOwn w lo hi e r) (h1 : lo' ≤ lo) (h2 : hi ≤ hi') : EntOwn w lo' hi' e r := by
  obtain ⟨u, v, rfl, a, b, d⟩ := h
  exact ⟨u, v, rfl, a.mono h1 h2, b.mono h1 h2, d⟩
theorem EntOwn.row (h : EntOwn w lo hi e r) : EntRow w lo hi e r := by
  obtain ⟨u, v, rfl, a, b, d⟩ := h
  obtain ⟨A1, c1, rfl, r1, _⟩ := a.rd
  obtain ⟨A2, c2, rfl, r2, _⟩ := b.rd
  exact ⟨A1, c1, A2, c2, rfl, r1, r2⟩
theorem EntOwn.dj_lt {l h : Nat} {e2 : Ent} {r2 : List Value} (h1 : EntOwn w lo hi e r) (h2 : EntOwn w' l h e2 r2) (hd : hi ≤ l) : DjR r r2 := by
  obtain ⟨u, v, rfl, a, b, _⟩ := h1
  obtain ⟨u2, v2, rfl, a2, b2, _⟩ := h2
  have key : ∀ {p q : Value} {s t : List Int}, Own w lo hi p s → Own w' l h q t → Dj p q := fun {p q s t} hp hq => by
    cases hb : p.ownBlock with
    | none => exact .inl hb
    | some z =>
      right
      intro e
      have g1 := hp.2 z hb
      have g2 := (hq.lt z (by rw [← e, hb])).1
      omega
  intro x hx y hy
  simp only [List.mem_cons, List.not_mem_nil, or_false] at hx hy
  rcases hx with rfl | rfl | rfl | rfl | rfl
  · exact .inl rfl
  · exact .inl rfl
  · exact .inl rfl
  all_goals
    rcases hy with rfl | rfl | rfl | rfl | rfl
    · exact Dj.sy (.inl rfl)
    · exact Dj.sy (.inl rfl)
    · exact Dj.sy (.inl rfl)
    · first | exact key a a2 | exact key b a2
    · first | exact key a b2 | exact key b b2
theorem EntsOwn.nil : EntsOwn w lo hi [] [] := ⟨rfl, fun j h => absurd h (by simp), List.Pairwise.nil⟩
theorem EntsOwn.keep (h : EntsOwn w lo hi es rows) (hk : ∀ k, lo ≤ k → k < hi → k < w.heap.size → w'.heap[k]? = w.heap[k]?) : EntsOwn w' lo hi es rows := ⟨h.len, fun j a b => (h.ent j a b).keep hk, h.dj⟩
theorem EntsOwn.mono (h : EntsOwn w lo hi es rows) (h1 : lo' ≤ lo) (h2 : hi ≤ hi') : EntsOwn w lo' hi' es rows := ⟨h.len, fun j a b => (h.ent j a b).mono h1 h2, h.dj⟩
theorem EntsOwn.st (h : EntsOwn w lo hi es rows) (hb : Below w.heap.size w w') : EntsOwn w' lo hi es rows := h.keep fun k _ _ h3 => hb.block k h3
theorem EntsOwn.below (h : EntsOwn w lo hi es rows) (hb : Below B w w') (hB : hi ≤ B) : EntsOwn w' lo hi es rows := h.keep fun k _ h2 _ => hb.block k (by omega)
theorem EntsOwn.alloc (h : EntsOwn w lo hi es rows) (o : Obj) : EntsOwn (w.alloc o) lo hi es rows := h.keep fun k _ _ h3 => Below.heap_alloc w o k h3
theorem EntsOwn.rws (h : EntsOwn w lo hi es rows) : EntRows w lo hi es rows := ⟨h.len, fun j a b => (h.ent j a b).row⟩
theorem EntsOwn.snoc (h : EntsOwn w lo hi es rows) (hr : EntOwn w lo hi e r) (hd : ∀ s ∈ rows, DjR s r) : EntsOwn w lo hi (es ++ [e]) (rows ++ [r]) := by
  refine ⟨by simp [h.len], fun j h1 h2 => ?_, ?_⟩
  · rw [List.getElem_append, List.getElem_append]
    have := h.len
    by_cases hj : j < es.length
    · rw [dif_pos hj, dif_pos (by omega)]; exact h.ent j hj (by omega)
    · rw [dif_neg hj, dif_neg (by omega)]; simpa using hr
  · rw [List.pairwise_append]
    exact ⟨h.dj, List.pairwise_singleton _ _, fun a ha b hb => by rw [List.mem_singleton.1 hb]; exact hd a ha⟩
theorem EntsOwn.append {l h : Nat} (h1 : EntsOwn w lo hi es rows) (h2 : EntsOwn w l h es2 rows2) (hd : hi ≤ l) (ha : lo ≤ l) (hb : hi ≤ h) : EntsOwn w lo h (es ++ es2) (rows ++ rows2) := by
  refine ⟨by simp [h1.len, h2.len], fun j h3 h4 => ?_, ?_⟩
  · rw [List.getElem_append, List.getElem_append]
    have e1 := h1.len
    have e2 := h2.len
    simp at h3 h4
    by_cases hj : j < es.length
    · rw [dif_pos hj, dif_pos (by omega)]; exact (h1.ent j hj (by omega)).mono (Nat.le_refl _) hb
    · rw [dif_neg hj, dif_neg (by omega)]
      have := (h2.ent (j - es.length) (by omega) (by omega)).mono ha (Nat.le_refl _)
      simp only [e1]
      exact this
  · rw [List.pairwise_append]
    refine ⟨h1.dj, h2.dj, fun a ha' b hb' => ?_⟩
    obtain ⟨i, hi', rfl⟩ := List.getElem_of_mem ha'
    obtain ⟨j, hj', rfl⟩ := List.getElem_of_mem hb'
    exact (h1.ent i (by rw [← h1.len]; exact hi') hi').dj_lt (h2.ent j (by rw [← h2.len]; exact hj') hj') hd
/-- rows and slices of a call's own: a log of its own -/
theorem EntsOwn.ownE (h : OwnR w lo hi 46 5 v rows) (he : EntsOwn w lo hi es rows) : OwnE w lo hi v es := by
  have hl := he.len
  rcases h.1.2 with ⟨rfl, hn⟩ | ⟨g, cap, cur, rfl, hb, hg, hnc, hcm, hsz, htk⟩
  · exact .inl ⟨rfl, List.eq_nil_of_length_eq_zero (by omega)⟩
  · have hlt := h.lt g rfl
    have hcell : ∀ j (hj : j < rows.length) i, i < 5 → cur[j * 5 + i]? = rows[j][i]? := fun j hj i hi' => by
      rw [← flat_at h.2.1 j i hj hi', ← htk, List.getElem?_take]
      have : j * 5 + i < rows.length * 5 := by omega
      rw [if_pos this]
      simp
    have hU : ∀ j (hj : j < es.length), ∃ u x, (rows[j]'(by omega)) = [.int .i64 es[j].time, .int .i64 es[j].msg, .int .i64 es[j].part, u, x] ∧ Own w lo hi u es[j].seen ∧ Own w lo hi x es[j].shown ∧ Dj u x := fun j hj => he.ent j hj (by omega)
    have hU' : ∀ j (hj : j < es.length), (rows[j]'(by omega)) = [.int .i64 es[j].time, .int .i64 es[j].msg, .int .i64 es[j].part, (rows.getD j []).getD 3 undef, (rows.getD j []).getD 4 undef] ∧ Own w lo hi ((rows.getD j []).getD 3 undef) es[j].seen ∧ Own w lo hi ((rows.getD j []).getD 4 undef) es[j].shown ∧ Dj ((rows.getD j []).getD 3 undef) ((rows.getD j []).getD 4 undef) := fun j hj => by
      obtain ⟨u, x, e1, a, b, d⟩ := hU j hj
      have e0 : rows.getD j [] = rows[j]'(by omega) := by rw [List.getD_eq_getElem?_getD, List.getElem?_eq_getElem (by omega)]; rfl
      rw [e0, e1]
      exact ⟨rfl, a, b, d⟩
    have hpw := List.pairwise_iff_getElem.1 he.dj
    have hm3 : ∀ j (hj : j < es.length), (rows.getD j []).getD 3 undef ∈ (rows[j]'(by omega)) ∧ (rows.getD j []).getD 4 undef ∈ (rows[j]'(by omega)) := fun j hj => by
      have := (hU' j hj).1
      rw [this]; simp
    refine .inr ⟨g, cap, cur, fun j => (rows.getD j []).getD 3 undef, fun j => (rows.getD j []).getD 4 undef, by rw [hl], hlt.1, hlt.2.1, hg, by omega, hcm, hsz, fun j hj => ?_, fun i hi' => (hU' i hi').2.2.2, fun i j hi' hj hne => ?_⟩
    · obtain ⟨e1, a, b, d⟩ := hU' j hj
      have hc : ∀ i, i < 5 → cur[j * 5 + i]? = [Value.int .i64 es[j].time, .int .i64 es[j].msg, .int .i64 es[j].part, (rows.getD j []).getD 3 undef, (rows.getD j []).getD 4 undef][i]? := fun i hi' => by
        have h0 := hcell j (by omega) i hi'
        rwa [e1] at h0
      exact ⟨⟨by simpa using hc 0 (by omega), by simpa using hc 1 (by omega), by simpa using hc 2 (by omega), by simpa using hc 3 (by omega), by simpa using hc 4 (by omega)⟩, a, b⟩
    · have p := hm3 i hi'
      have q := hm3 j hj
      rcases Nat.lt_or_gt_of_ne hne with hlt' | hlt'
      · have d := hpw i j (by omega) (by omega) hlt'
        exact ⟨d _ p.1 _ q.1, d _ p.1 _ q.2, d _ p.2 _ q.1, d _ p.2 _ q.2⟩
      · have d := hpw j i (by omega) (by omega) hlt'
        exact ⟨(d _ q.1 _ p.1).sy, (d _ q.2 _ p.1).sy, (d _ q.1 _ p.2).sy, (d _ q.2 _ p.2).sy⟩
/-- and back -/
theorem OwnE.rws (h : OwnE w lo hi v es) : ∃ rows, OwnR w lo hi 46 5 v rows ∧ EntsOwn w lo hi es rows := by
  rcases h with ⟨rfl, rfl⟩ | ⟨g, cap, cur, U, V, rfl, a1, a2, hg, c1, c2, c3, hj, hd⟩
  · exact ⟨[], OwnR.nil, EntsOwn.nil⟩
  · let f : Nat → List Value := fun j => if h : j < es.length then [.int .i64 es[j].time, .int .i64 es[j].msg, .int .i64 es[j].part, U j, V j] else []
    have hf : ∀ j (h : j < es.length), f j = [.int .i64 es[j].time, .int .i64 es[j].msg, .int .i64 es[j].part, U j, V j] := fun j h => by simp only [f, dif_pos h]
    have hlen : ((List.range es.length).map f).length = es.length := by simp
    have h5 : ∀ r ∈ (List.range es.length).map f, r.length = 5 := fun r hr => by
      obtain ⟨i, hi1, rfl⟩ := List.mem_map.1 hr
      rw [hf i (List.mem_range.1 hi1)]; rfl
    have hfl := flat_len h5
    have hat : ∀ j (hj : j < ((List.range es.length).map f).length), ((List.range es.length).map f)[j] = f j := fun j hj => by simp
    have hin : ∀ i (hi' : i < es.length) x, x ∈ f i → x.ownBlock = none ∨ x = U i ∨ x = V i := fun i hi' x hx => by
      rw [hf i hi'] at hx
      simp only [List.mem_cons, List.not_mem_nil, or_false] at hx
      rcases hx with rfl | rfl | rfl | rfl | rfl
      · exact .inl rfl
      · exact .inl rfl
      · exact .inl rfl
      · exact .inr (.inl rfl)
      · exact .inr (.inr rfl)
    refine ⟨(List.range es.length).map f, ⟨⟨by rw [hfl], .inr ⟨g, cap, cur, by rw [hlen], a1, hg, by rw [hlen]; exact c1, c2, c3, ?_⟩⟩, h5, fun k hk => ?_⟩, hlen, fun j h1 h2 => ?_, ?_⟩
    · apply List.ext_getElem?
      intro i
      rw [List.getElem?_take]
      by_cases hi' : i < es.length * 5
      · rw [if_pos (by rw [hlen]; exact hi')]
        have hq : i / 5 < es.length := (Nat.div_lt_iff_lt_mul (by decide)).2 hi'
        have hm : i % 5 < 5 := Nat.mod_lt _ (by decide)
        have e : i = i / 5 * 5 + i % 5 := by omega
        have h3 := flat_at h5 (i / 5) (i % 5) (by rw [hlen]; exact hq) hm
        rw [← e, hat, hf _ hq] at h3
        rw [h3]
        obtain ⟨⟨x0, x1, x2, x3, x4⟩, _⟩ := hj (i / 5) hq
        have hcc : ∀ k, k < 5 → cur.toList[i / 5 * 5 + k]? = [Value.int .i64 es[i / 5].time, .int .i64 es[i / 5].msg, .int .i64 es[i / 5].part, U (i / 5), V (i / 5)][k]? := fun k hk => by
          match k, hk with
          | 0, _ => simpa using x0
          | 1, _ => simpa using x1
          | 2, _ => simpa using x2
          | 3, _ => simpa using x3
          | 4, _ => simpa using x4
        conv => lhs; rw [e]
        exact hcc _ hm
      · rw [if_neg (by rw [hlen]; exact hi'), List.getElem?_eq_none (by rw [hfl, hlen]; omega)]
    · simp [Value.ownBlock] at hk; omega
    · rw [hat, hf j h1]
      exact ⟨U j, V j, rfl, (hj j h1).2.1, (hj j h1).2.2, hd.1 j h1⟩
    · rw [List.pairwise_iff_getElem]
      intro i j hi' hj' hij x hx y hy
      rw [hat] at hx hy
      rw [hlen] at hi' hj'
      have dd := hd.2 i j hi' hj' (by omega)
      rcases hin i hi' x hx with h0 | rfl | rfl
      · exact .inl h0
      · rcases hin j hj' y hy with h0 | rfl | rfl
        · exact Dj.sy (.inl h0)
        · exact dd.1
        · exact dd.2.1
      · rcases hin j hj' y hy with h0 | rfl | rfl
        · exact Dj.sy (.inl h0)
        · exact dd.2.2.1
        · exact dd.2.2.2
end
end Go.Proofs.YtjhbffndiaggmaaDoor

/-
  Words for memory: what a growing slice of structs leaves alone of slices of integers. No statement of the program stands here.
-/
namespace Go.Proofs.YtjhbffndiaggmaaDoor
open Go.RowKit Go.ChangeShapes Go.WideShapes
set_option linter.unusedVariables false
set_option linter.unusedSimpArgs false

section
variable {w w' : World} {lo hi lo' hi' sz sz' : Nat} {t t' : TypeId} {v v' : Value} {rows rows' : List (List Value)}
/-- the block of such a slice: its type -/
theorem OwnR.blockT (h : OwnR w lo hi t sz v rows) : ∀ k, v.ownBlock = some k → ∃ cur, w.heap[k]? = some (.cells cur t (0, 0)) := fun k hk => by
  rcases h.1.2 with ⟨rfl, _⟩ | ⟨g, cap, cur, rfl, hb, hg, _⟩
  · simp [Value.ownBlock] at hk
  · obtain rfl : g = k := by simpa [Value.ownBlock] using hk
    exact ⟨cur, hg⟩
/-- what is appended to a slice of another type leaves it alone -/
theorem OwnR.keepT (h : OwnR w lo hi t sz v rows) (h' : OwnR w lo' hi' t' sz' v' rows') (hg : w.grownBy w' v'.ownBlock) (hne : t' ≠ t) : OwnR w' lo hi t sz v rows :=
  h.keep fun k hk _ _ hlt => hg.block k hlt (fun e => by
    obtain ⟨c1, e1⟩ := h.blockT k hk
    obtain ⟨c2, e2⟩ := h'.blockT k e.symm
    rw [e1] at e2
    injection e2 with e2
    injection e2 with _ e2 _
    exact hne e2.symm)
end
section
variable {w w' : World} {lo hi lo' hi' sz' : Nat} {u : Value} {zs : List Int} {e : Ent} {r : List Value} {es : List Ent} {rows rows' : List (List Value)} {v' : Value} {t' : TypeId}
/-- blocks of integers are as they were: so are slices of integers that a call has made -/
def KeepI (w w' : World) : Prop := ∀ (k : Nat) (cs : Array Value), w.heap[k]? = some (Obj.cells cs 3 (0, 0)) → w'.heap[k]? = w.heap[k]?
theorem KeepI.grown (h' : OwnR w lo' hi' t' sz' v' rows') (hg : w.grownBy w' v'.ownBlock) (hne : t' ≠ 3) : KeepI w w' := fun k cs hk =>
  hg.block k (Array.getElem?_eq_some_iff.1 hk).1 (fun e => by
    obtain ⟨c2, e2⟩ := h'.blockT k e.symm
    rw [hk] at e2
    injection e2 with e2
    injection e2 with _ e2 _
    exact hne e2.symm)
theorem Own.keepI (h : Own w lo hi u zs) (hk : KeepI w w') : Own w' lo hi u zs := h.keep fun k hkk _ _ _ => by
  rcases h.1.2 with ⟨rfl, _⟩ | ⟨g, cap, cur, rfl, hb, hg, _⟩
  · simp [Value.ownBlock] at hkk
  · obtain rfl : g = k := by simpa [Value.ownBlock] using hkk
    exact hk _ _ hg
theorem EntOwn.keepI (h : EntOwn w lo hi e r) (hk : KeepI w w') : EntOwn w' lo hi e r := by
  obtain ⟨u, v, rfl, a, b, d⟩ := h
  exact ⟨u, v, rfl, a.keepI hk, b.keepI hk, d⟩
theorem EntsOwn.keepI (h : EntsOwn w lo hi es rows) (hk : KeepI w w') : EntsOwn w' lo hi es rows := ⟨h.len, fun j a b => (h.ent j a b).keepI hk, h.dj⟩
theorem EntOwn.len (h : EntOwn w lo hi e r) : r.length = 5 := h.row.len
theorem EntsOwn.mem {s : List Value} (h : EntsOwn w lo hi es rows) (hs : s ∈ rows) : ∃ e, EntOwn w lo hi e s := by
  obtain ⟨j, hj, rfl⟩ := List.getElem_of_mem hs
  exact ⟨_, h.ent j (by rw [← h.len]; exact hj) hj⟩
end

end Go.Proofs.YtjhbffndiaggmaaDoor

/-
  Words for memory: slices of slices of integers, read and made; a slice put behind them. No statement of the program stands here.
-/
namespace Go.Proofs.YtjhbffndiaggmaaDoor
open Go.RowKit
set_option linter.unusedVariables false

/-- the slice value with address A reads as the lists xss -/
def RdI (w : World) (lo hi : Nat) (A : Option Addr) (xss : List (List Int)) : Prop :=
  0 < xss.length → ∃ b off, A = some ⟨b, off, none⟩ ∧ lo ≤ b ∧ b < hi ∧ ∀ j (hj : j < xss.length), ∃ A1 c1, w.cell? ⟨b, off + j, none⟩ = some (.slice A1 xss[j].length c1) ∧ Rd w lo hi A1 xss[j]

section
variable {w w' : World} {lo hi lo' hi' B : Nat} {A : Option Addr} {es : List (List Int)}
theorem RdI.nil : RdI w lo hi A [] := fun h => absurd h (by simp)
theorem RdI.mono (h : RdI w lo hi A es) (h1 : lo' ≤ lo) (h2 : hi ≤ hi') : RdI w lo' hi' A es := fun hp => by
  obtain ⟨b, off, e, a1, a2, hc⟩ := h hp
  refine ⟨b, off, e, by omega, by omega, fun j hj => ?_⟩
  obtain ⟨A1, c1, x, r⟩ := hc j hj
  exact ⟨A1, c1, x, r.mono h1 h2⟩
theorem RdI.std (h : RdI w lo hi A es) : RdI w 0 w.heap.size A es := fun hp => by
  obtain ⟨b, off, e, _, _, hc⟩ := h hp
  refine ⟨b, off, e, Nat.zero_le _, ?_, fun j hj => ?_⟩
  · obtain ⟨A1, c1, x, r⟩ := hc 0 hp
    exact World.block_lt_of_cell? w _ x
  · obtain ⟨A1, c1, x, r⟩ := hc j hj
    exact ⟨A1, c1, x, r.std⟩
theorem RdI.keep (h : RdI w lo hi A es) (hk : ∀ b o, lo ≤ b → b < hi → b < w.heap.size → w'.cell? ⟨b, o, none⟩ = w.cell? ⟨b, o, none⟩) : RdI w' lo hi A es := fun hp => by
  obtain ⟨b, off, e, a1, a2, hc⟩ := h hp
  refine ⟨b, off, e, a1, a2, fun j hj => ?_⟩
  obtain ⟨A1, c1, x, r⟩ := hc j hj
  exact ⟨A1, c1, (hk _ _ a1 a2 (World.block_lt_of_cell? w _ x)).trans x, r.keep hk⟩
theorem RdI.below (h : RdI w lo hi A es) (hb : Below B w w') (hB : hi ≤ B) : RdI w' lo hi A es := h.keep fun b o _ h2 _ => hb.cell (p := ⟨b, o, none⟩) (by show b < B; omega)
theorem RdI.st (h : RdI w lo hi A es) (hb : Below w.heap.size w w') : RdI w' lo hi A es := h.keep fun b o _ _ h3 => hb.cell (p := ⟨b, o, none⟩) h3
theorem RdI.fr (h : RdI w lo hi A es) (hf : Fr lo' hi' w w') (hd : hi ≤ lo' ∨ hi' ≤ lo) : RdI w' lo hi A es :=
  h.keep fun b o h1 h2 h3 => World.cell?_of_block (w := w) (hf.block b h3 (by omega))
theorem RdI.drew (h : RdI w lo hi A es) : RdI w.drew lo hi A es := h
theorem RdI.drewN (h : RdI w lo hi A es) (k : Nat) : RdI (w.drewN k) lo hi A es := h
theorem RdI.alloc (h : RdI w lo hi A es) (o : Obj) : RdI (w.alloc o) lo hi A es := h.keep fun b o' _ _ h3 => World.cell?_alloc_lt w o _ (by exact h3)
end

/-- no two of these slices share a block -/
def DjU (n : Nat) (U : Nat → Value) : Prop := ∀ i j, i < n → j < n → i ≠ j → Dj (U i) (U j)
theorem Dj.symm {p q : Value} (h : Dj p q) : Dj q p := by
  unfold Dj at *
  cases hq : q.ownBlock with
  | none => exact .inl rfl
  | some z =>
    right
    rcases h with h | h
    · rw [h]; simp
    · rw [← hq]; exact fun e => h e.symm

/-- the slice value v has been made by a call: a block of its own that holds slices of its own, no two of them in one block -/
def OwnI (w : World) (lo hi : Nat) (v : Value) (es : List (List Int)) : Prop :=
  (v = .slice none 0 0 ∧ es = []) ∨
  ∃ g cap cur U, v = .slice (some ⟨g, 0, none⟩) es.length cap ∧ lo ≤ g ∧ g < hi ∧ w.heap[g]? = some (.cells cur 28 (0, 0)) ∧ es.length ≤ cap ∧ cap ≤ maxLen ∧ cur.size = cap ∧
    (∀ j (hj : j < es.length), cur[j]? = some (U j) ∧ Own w lo hi (U j) es[j]) ∧ DjU es.length U

section
variable {w w' : World} {lo hi lo' hi' B g : Nat} {v : Value} {es : List (List Int)}
theorem OwnI.nil : OwnI w lo hi (.slice none 0 0) [] := .inl ⟨rfl, rfl⟩
theorem OwnI.mono (h : OwnI w lo hi v es) (h1 : lo' ≤ lo) (h2 : hi ≤ hi') : OwnI w lo' hi' v es := by
  rcases h with h | ⟨g, cap, cur, U, e, a1, a2, hg, c1, c2, c3, hj, hd⟩
  · exact .inl h
  · exact .inr ⟨g, cap, cur, U, e, by omega, by omega, hg, c1, c2, c3, fun j h => ⟨(hj j h).1, (hj j h).2.mono h1 h2⟩, hd⟩
theorem OwnI.keep (h : OwnI w lo hi v es) (hk : ∀ k, lo ≤ k → k < hi → k < w.heap.size → w'.heap[k]? = w.heap[k]?) : OwnI w' lo hi v es := by
  rcases h with h | ⟨g, cap, cur, U, e, a1, a2, hg, c1, c2, c3, hj, hd⟩
  · exact .inl h
  · exact .inr ⟨g, cap, cur, U, e, a1, a2, (hk g a1 a2 (Array.getElem?_eq_some_iff.1 hg).1).trans hg, c1, c2, c3, fun j h => ⟨(hj j h).1, (hj j h).2.keep fun k _ => hk k⟩, hd⟩
theorem OwnI.inH (h : OwnI w lo hi v es) : OwnI w lo w.heap.size v es := by
  rcases h with h | ⟨g, cap, cur, U, e, a1, a2, hg, c1, c2, c3, hj, hd⟩
  · exact .inl h
  · exact .inr ⟨g, cap, cur, U, e, a1, (Array.getElem?_eq_some_iff.1 hg).1, hg, c1, c2, c3, fun j h => ⟨(hj j h).1, (hj j h).2.1, fun k hk => ((hj j h).2.lt k hk).2.2⟩, hd⟩
theorem OwnI.st (h : OwnI w lo hi v es) (hb : Below w.heap.size w w') : OwnI w' lo hi v es := h.keep fun k _ _ h3 => hb.block k h3
theorem OwnI.below (h : OwnI w lo hi v es) (hb : Below B w w') (hB : hi ≤ B ∨ w.heap.size ≤ B) : OwnI w' lo hi v es := h.keep fun k _ h2 h3 => hb.block k (by omega)
theorem OwnI.fr (h : OwnI w lo hi v es) (hf : Fr lo' hi' w w') (hd : hi ≤ lo' ∨ hi' ≤ lo) : OwnI w' lo hi v es := h.keep fun k h1 h2 h3 => hf.block k h3 (by omega)
theorem OwnI.drew (h : OwnI w lo hi v es) : OwnI w.drew lo hi v es := h
theorem OwnI.drewN (h : OwnI w lo hi v es) (k : Nat) : OwnI (w.drewN k) lo hi v es := h
theorem OwnI.alloc (h : OwnI w lo hi v es) (o : Obj) : OwnI (w.alloc o) lo hi v es := h.keep fun k _ _ h3 => Below.heap_alloc w o k h3
theorem OwnI.rd (h : OwnI w lo hi v es) : ∃ A c, v = .slice A es.length c ∧ RdI w lo hi A es ∧ c ≤ maxLen := by
  rcases h with ⟨rfl, rfl⟩ | ⟨g, cap, cur, U, rfl, a1, a2, hg, c1, c2, c3, hj, hd⟩
  · exact ⟨none, 0, rfl, RdI.nil, by simp [maxLen]⟩
  · refine ⟨_, cap, rfl, fun hp => ⟨g, 0, rfl, a1, a2, fun j h => ?_⟩, c2⟩
    obtain ⟨x0, hu⟩ := hj j h
    obtain ⟨A1, d1, e1, r1, _⟩ := hu.rd
    have hc : ∀ i, w.cell? ⟨g, i, none⟩ = cur[i]? := fun i => cell_of_row w g i cur _ _ hg
    rw [Nat.zero_add]
    exact ⟨A1, d1, (hc _).trans (x0.trans (by rw [e1])), r1⟩
theorem OwnI.rd' {A : Option Addr} {n c : Nat} (h : OwnI w lo hi (.slice A n c) es) : RdI w lo hi A es := by
  obtain ⟨A', c', he, hr, _⟩ := h.rd
  injection he with h1 h2 h3
  subst h1
  exact hr
theorem OwnI.lt (h : OwnI w lo hi v es) : ∀ k, v.ownBlock = some k → lo ≤ k ∧ k < hi ∧ k < w.heap.size := by
  rcases h with ⟨rfl, rfl⟩ | ⟨g, cap, cur, U, rfl, a1, a2, hg, _⟩
  · intro k hk; simp [Value.ownBlock] at hk
  · intro k hk
    simp [Value.ownBlock] at hk
    subst hk
    exact ⟨a1, a2, (Array.getElem?_eq_some_iff.1 hg).1⟩
/-- a slice of integers never lies in a block of slices -/
theorem Own.ne_sl {u : Value} {s : List Int} {cur : Array Value} (h : Own w lo hi u s) (hg : w.heap[g]? = some (.cells cur 28 (0, 0))) : u.ownBlock ≠ some g := by
  rcases h.1.2 with ⟨rfl, _⟩ | ⟨g', cap, cur', rfl, _, hh, _⟩
  · simp [Value.ownBlock]
  · intro he
    have : g' = g := by simpa [Value.ownBlock] using he
    subst this
    rw [hg] at hh
    injection hh with hh
    injection hh with _ ht
    exact absurd ht (by decide)
/-- as the library's laws on append have it -/
theorem OwnI.row (h : OwnI w lo hi v es) : ∃ xs : List Value, w.ownsRow lo 28 1 v es.length xs ∧ xs.length = es.length ∧ ∃ U, (∀ j (hj : j < es.length), xs[j]? = some (U j) ∧ Own w lo hi (U j) es[j]) ∧ DjU es.length U := by
  rcases h with ⟨rfl, rfl⟩ | ⟨g, cap, cur, U, rfl, a1, a2, hg, c1, c2, c3, hj, hd⟩
  · exact ⟨[], World.ownsRow_nil _ _ _ _, rfl, fun _ => undef, fun j hj => absurd hj (by simp), fun i j hi => absurd hi (by simp)⟩
  · refine ⟨cur.toList.take es.length, ⟨by simp; omega, .inr ⟨g, cap, cur, rfl, a1, hg, c1, c2, by omega, by simp⟩⟩, by simp; omega, U, fun j h => ⟨?_, (hj j h).2⟩, hd⟩
    rw [List.getElem?_take, if_pos h]
    simpa using (hj j h).1
theorem OwnI.of_row {xs : List Value} {U : Nat → Value} (h : w.ownsRow lo 28 1 v es.length xs) (hs : w.heap.size ≤ hi) (hj : ∀ j (hj : j < es.length), xs[j]? = some (U j) ∧ Own w lo hi (U j) es[j]) (hd : DjU es.length U) : OwnI w lo hi v es := by
  rcases h.2 with ⟨rfl, hn⟩ | ⟨g, cap, cur, rfl, hb, hg, hnc, hcm, hsz, htk⟩
  · exact .inl ⟨rfl, List.eq_nil_of_length_eq_zero hn⟩
  · have hl := (Array.getElem?_eq_some_iff.1 hg).1
    refine .inr ⟨g, cap, cur, U, rfl, hb, by omega, hg, hnc, hcm, by omega, fun j h => ⟨?_, (hj j h).2⟩, hd⟩
    have h1 := (hj j h).1
    rw [← htk, List.getElem?_take, if_pos (by omega)] at h1
    simpa using h1
end

theorem Below.drewR {B : Nat} {w w' : World} (h : Below B w.drew w') : Below B w w' := ⟨h.os, h.tape, h.output, h.size, h.block⟩
/-- what a made row holds is determined by the memory -/
theorem ownsRow_unique {w : World} {b1 b2 n : Nat} {t : TypeId} {v : Value} {xs ys : List Value} (h1 : w.ownsRow b1 t 1 v n xs) (h2 : w.ownsRow b2 t 1 v n ys) : xs = ys := by
  rcases h1.2 with ⟨rfl, hn⟩ | ⟨g, cap, cur, rfl, hb, hg, hnc, hcm, hsz, htk⟩
  · subst hn
    have e1 := h1.1
    have e2 := h2.1
    simp at e1 e2
    rw [e1, e2]
  · rcases h2.2 with ⟨h, _⟩ | ⟨g', cap', cur', he, hb', hg', hnc', hcm', hsz', htk'⟩
    · cases h
    · injection he with e1 e2 e3
      injection e1 with e1
      injection e1 with e1
      subst e1
      rw [hg] at hg'
      injection hg' with hg'
      injection hg' with hg'
      subst hg'
      rw [← htk, ← htk']
/-- the slices that v holds have no room behind their numbers -/
def FullI (w : World) (lo : Nat) (v : Value) (n : Nat) : Prop := ∃ xs, w.ownsRow lo 28 1 v n xs ∧ ∀ x ∈ xs, ∃ A m, x = Value.slice A m m
theorem FullI.nil {w : World} {lo : Nat} : FullI w lo (.slice none 0 0) 0 := ⟨[], World.ownsRow_nil _ _ _ _, fun x h => absurd h (by simp)⟩
theorem FullI.keep {w w' : World} {lo n : Nat} {v : Value} (h : FullI w lo v n) (hk : ∀ k, v.ownBlock = some k → lo ≤ k → k < w.heap.size → w'.heap[k]? = w.heap[k]?) : FullI w' lo v n := by
  obtain ⟨xs, hr, hf⟩ := h
  refine ⟨xs, ⟨hr.1, ?_⟩, hf⟩
  rcases hr.2 with hn | ⟨g, cap, cur, rfl, hb, hg, r⟩
  · exact .inl hn
  · exact .inr ⟨g, cap, cur, rfl, hb, (hk g rfl hb (Array.getElem?_eq_some_iff.1 hg).1).trans hg, r⟩
theorem FullI.st {w w' : World} {lo n : Nat} {v : Value} (h : FullI w lo v n) (hb : Below w.heap.size w w') : FullI w' lo v n := h.keep fun k _ _ h3 => hb.block k h3
theorem FullI.alloc {w : World} {lo n : Nat} {v : Value} (h : FullI w lo v n) (o : Obj) : FullI (w.alloc o) lo v n := h.keep fun k _ _ h3 => Below.heap_alloc w o k h3
/-- a slice of full slices, read -/
theorem FullI.at_ {w : World} {lo hi n : Nat} {v : Value} {es : List (List Int)} (h : FullI w lo v n) (ho : OwnI w lo hi v es) (j : Nat) (hj : j < es.length) :
    ∃ g A1, v.ownBlock = some g ∧ w.cell? ⟨g, j, none⟩ = some (.slice A1 es[j].length es[j].length) ∧ Rd w lo hi A1 es[j] := by
  obtain ⟨xs, hr, hf⟩ := h
  rcases ho with ⟨_, rfl⟩ | ⟨g, cap, cur, U, rfl, a1, a2, hg, c1, c2, c3, hjj, hd⟩
  · exact absurd hj (by simp)
  · obtain ⟨x0, hu⟩ := hjj j hj
    obtain ⟨A1, d1, e1, r1, _⟩ := hu.rd
    refine ⟨g, A1, rfl, ?_, r1⟩
    have hc : w.cell? ⟨g, j, none⟩ = some (U j) := (cell_of_row w g j cur _ _ hg).trans x0
    rw [hc]
    rcases hr.2 with ⟨h, _⟩ | ⟨g', cap', cur', he, hb', hg', hnc', hcm', hsz', htk'⟩
    · cases h
    · injection he with e2 e3 e4
      injection e2 with e2
      injection e2 with e2
      subst e2
      rw [hg] at hg'
      injection hg' with hg'
      injection hg' with hg'
      subst hg'
      have hm : U j ∈ xs := by
        rw [← htk']
        have : cur.toList[j]? = some (U j) := by simpa using x0
        rw [List.mem_take_iff_getElem]
        obtain ⟨hl, he2⟩ := List.getElem?_eq_some_iff.1 this
        exact ⟨j, by omega, he2⟩
      obtain ⟨A2, m, e5⟩ := hf _ hm
      rw [e1] at e5 ⊢
      injection e5 with e6 e7 e8
      rw [e8, e7]

/-- the blocks from P0 on and below P1 are as they were -/
def Kp (P0 P1 : Nat) (w w' : World) : Prop := ∀ b, P0 ≤ b → b < P1 → w'.heap[b]? = w.heap[b]?
theorem Kp.refl (P0 P1 : Nat) (w : World) : Kp P0 P1 w w := fun _ _ _ => rfl
theorem Kp.trans {P0 P1 : Nat} {w w' w'' : World} (h : Kp P0 P1 w w') (k : Kp P0 P1 w' w'') : Kp P0 P1 w w'' := fun b h1 h2 => (k b h1 h2).trans (h b h1 h2)
theorem Kp.below {P0 P1 B : Nat} {w w' : World} (h : Below B w w') (hb : P1 ≤ B) : Kp P0 P1 w w' := fun b _ h2 => h.block b (by omega)
theorem Kp.grown {P0 P1 : Nat} {w w' : World} {row : Option Nat} (h : w.grownBy w' row) (hs : P1 ≤ w.heap.size) (hr : ∀ b, row = some b → b < P0 ∨ P1 ≤ b) : Kp P0 P1 w w' := fun b h1 h2 => h.block b (by omega) (fun e => by have := hr b e.symm; omega)

theorem own_addr {w : World} {lo n m c b off g : Nat} (h : FullI w lo (.slice (some ⟨b, off, none⟩) m c) n) (hg : (Value.slice (some ⟨b, off, none⟩) m c).ownBlock = some g) : b = g ∧ off = 0 := by
  obtain ⟨xs, hr, _⟩ := h
  rcases hr.2 with ⟨h, _⟩ | ⟨g', cap, cur, he, _⟩
  · cases h
  · injection he with e1 e2 e3
    have e4 := congrArg Addr.block (Option.some.inj e1)
    have e5 := congrArg Addr.off (Option.some.inj e1)
    refine ⟨?_, e5⟩
    simpa [Value.ownBlock] using hg
theorem slInfo : (Tryd.prog.info? 28).map (fun i => (i.zero, i.size, i.bytes)) = some (some (.slice none 0 0), 1, 24) := by kernel_rfl

section
variable {ops : Array Oper} {rest : List Oper} {o : Oper} {a : Act} {Q : Exit → Act → World → Prop} {w : World} {lo hi hi2 : Nat} {v u : Value} {es : List (List Int)} {ys : List Int}
theorem run_append_sl (ty : TypeId) (hown : OwnI w lo hi v es) (hu : Own w hi hi2 u ys) (hl : lo ≤ hi) (hh : hi ≤ w.heap.size) (hlen : es.length + 1 ≤ 1099511627776) :
    ∃ v' w', (Builtin.append_ #[25, 25] ty #[v, .slice (some ⟨w.heap.size, 0, none⟩) 1 1]).run Tryd.prog (w.alloc (.cells #[u] 28)) = .ok v' w' ∧ OwnI w' lo w'.heap.size v' (es ++ [ys]) ∧ Below lo w w' ∧ (FullI w lo v es.length → (∃ A m, u = .slice A m m) → FullI w' lo v' (es.length + 1)) ∧ w.grownBy w' v.ownBlock ∧ (v'.ownBlock = v.ownBlock ∨ v'.ownBlock = some (w.heap.size + 1)) := by
  obtain ⟨i0, hi0, hz0, hz1, hz2⟩ := info_parts slInfo
  obtain ⟨xs, hrow, hxl, U, hU, hD⟩ := hown.row
  have h1 : ∀ z ∈ [u], z.oneCell' = true := by
    intro z hz
    simp at hz
    subst hz
    obtain ⟨A, c, rfl, _⟩ := hu.rd
    rfl
  have hnews : ∀ j z, [u][j]? = some z → (w.alloc (.cells #[u] 28)).cell? ((⟨w.heap.size, 0, none⟩ : Addr).add j) = some z := World.news_of_block (cs := #[u]) (t := 28) (fr := (0, 0)) (heap_alloc_new w _)
  obtain ⟨v', w', hrun, h2, h3, _, h5⟩ := run_append_own_at (P := Tryd.prog) (w.alloc (.cells #[u] 28)) lo _ ty _ i0 (.slice none 0 0) 1 24 Tryd.underlying25 hi0 hz0 hz1 hz2 rfl (by omega) v es.length xs (hrow.alloc _) ⟨w.heap.size, 0, none⟩ 1 1 [u] (by simp) hnews h1
    (by simp only [maxLen]; omega) (by omega) (by simp; omega)
  have hgr : w.grownBy w' v.ownBlock := by
    refine ⟨h3.os, h3.tape, h3.output, Nat.le_trans (by simp) h3.size, fun k hk hne => ?_⟩
    rw [h3.block k (by simp; omega) hne]
    exact Below.heap_alloc w _ k hk
  have hkeep : ∀ {l h : Nat} {z : Value} {s : List Int}, Own w l h z s → (h ≤ hi ∨ hi ≤ l) → Own w' l h z s := fun {l h z s} ho hd => by
    refine ho.keep fun k hk h1' h2' h3' => hgr.block k h3' (fun e => ?_)
    rcases hown with ⟨rfl, _⟩ | ⟨g, cap, cur, U', rfl, a1, a2, hg, _⟩
    · simp [Value.ownBlock] at e
    · have : k = g := by simpa [Value.ownBlock] using e
      subst this
      exact ho.ne_sl hg hk
  refine ⟨v', w', hrun, ?_, (Below.refl lo w).grown hgr (by omega) (fun k hk => (hown.lt k hk).1), fun ⟨xs', hr', hf'⟩ hu' => ⟨xs ++ [u], h2, fun x hx => by
    rcases List.mem_append.1 hx with hx | hx
    · rw [ownsRow_unique hrow hr'] at hx; exact hf' x hx
    · simp at hx; subst hx; exact hu'⟩, hgr, by simpa using h5⟩
  have hsz : w.heap.size + 1 ≤ w'.heap.size := by have := h3.size; simpa using this
  have hu2 : hi2 ≤ w'.heap.size ∨ Own w' lo w'.heap.size u ys := .inr (by
    have := hkeep hu (.inr (Nat.le_refl _))
    exact ⟨(this.mono hl (Nat.le_refl _)).1, fun k hk => (this.lt k hk).2.2⟩)
  have huo : Own w' lo w'.heap.size u ys := by
    have := hkeep hu (.inr (Nat.le_refl _))
    exact ⟨(this.mono hl (Nat.le_refl _)).1, fun k hk => (this.lt k hk).2.2⟩
  have hlen2 : (es ++ [ys]).length = es.length + 1 := by simp
  refine OwnI.of_row (U := fun j => if j = es.length then u else U j) (by rw [hlen2]; exact h2) (Nat.le_refl _) ?_ ?_
  · intro j hj
    rw [hlen2] at hj
    by_cases he : j = es.length
    · subst he
      simp only [if_true]
      refine ⟨?_, by simpa using huo⟩
      rw [List.getElem?_append_right (by omega), hxl]
      simp
    · simp only [if_neg he]
      have hjl : j < es.length := by omega
      refine ⟨?_, ?_⟩
      · rw [List.getElem?_append_left (by omega)]
        exact (hU j hjl).1
      · rw [List.getElem_append_left hjl]
        exact (hkeep (hU j hjl).2 (.inl (Nat.le_refl _))).mono (Nat.le_refl _) (by omega)
  · rw [hlen2]
    intro i j hi' hj' hne
    have hdu : ∀ k, k < es.length → Dj (U k) u := fun k hk => Dj.of_lt (hU k hk).2 hu (Nat.le_refl _)
    by_cases h1 : i = es.length
    · have h2 : j ≠ es.length := fun h => hne (by rw [h1, h])
      simp only [h1, if_true, if_neg h2]
      exact (hdu j (by omega)).symm
    · by_cases h2 : j = es.length
      · simp only [h2, if_true, if_neg h1]
        exact hdu i (by omega)
      · simp only [if_neg h1, if_neg h2]
        exact hD i j (by omega) (by omega) hne

/-- 'append(v, u)' of a slice u that has just been made -/
theorem wp_append_sl (hgd : o.guard = none) (s x : Operand) (ho : o.op = .call { callee := .builtin .append, args := #[s, x], argTypes := #[25, 25] })
    (hs : a.eval s = v) (hx : a.eval x = .slice (some ⟨w.heap.size, 0, none⟩) 1 1) (hown : OwnI w lo hi v es) (hu : Own w hi hi2 u ys) (hl : lo ≤ hi) (hh : hi ≤ w.heap.size) (hlen : es.length + 1 ≤ 1099511627776)
    (h : ∀ v' w', OwnI w' lo w'.heap.size v' (es ++ [ys]) → Below lo w w' → w.grownBy w' v.ownBlock → (v'.ownBlock = v.ownBlock ∨ v'.ownBlock = some (w.heap.size + 1)) → wpList Tryd.prog ops Q rest (a.put o.dst v') w') : wpList Tryd.prog ops Q (o :: rest) a (w.alloc (.cells #[u] 28)) :=
  wpList_plain hgd fun K hK => by
    obtain ⟨v', w', hrun, h2, h3, _, h5, h6⟩ := run_append_sl o.type hown hu hl hh hlen
    unfold Oper.wp execOp
    simp only [ho, resolve, invoke, builtin, Sem.run_bind, Sem.run_pure, Result.andThen_ok, List.map_toArray, List.map_cons, List.map_nil, hs, hx, hrun]
    exact hK _ _ (h v' w' h2 h3 h5 h6)
/-- 'append(x, n)' of one number behind a slice without room: a block of its own -/
theorem wp_append_full (hgd : o.guard = none) (s x : Operand) {b off m : Nat} {xs zs : List Int} (ho : o.op = .call { callee := .builtin .append, args := #[s, x], argTypes := #[28, 28] })
    (hs : a.eval s = .slice (some ⟨b, off, none⟩) xs.length xs.length) (hx : a.eval x = .slice (some ⟨m, 0, none⟩) zs.length zs.length) (hr : Rd w 0 w.heap.size (some ⟨b, off, none⟩) xs) (hz : Rd w 0 w.heap.size (some ⟨m, 0, none⟩) zs) (h0 : 0 < xs.length) (h1 : 0 < zs.length) (hlen : xs.length + zs.length ≤ 1048576)
    (h : ∀ A' c' w', Own w' w.heap.size w'.heap.size (.slice A' (xs ++ zs).length c') (xs ++ zs) → Below w.heap.size w w' → wpList Tryd.prog ops Q rest (a.put o.dst (.slice A' (xs ++ zs).length c')) w') : wpList Tryd.prog ops Q (o :: rest) a w :=
  wpList_plain hgd fun K hK => by
    obtain ⟨i0, hi0, hz0, hz1, hz2⟩ := info_parts intInfo
    obtain ⟨b', off', e1, _, _, hc⟩ := hr h0
    obtain rfl : b' = b := (congrArg Addr.block (Option.some.inj e1)).symm
    obtain rfl : off' = off := (congrArg Addr.off (Option.some.inj e1)).symm
    obtain ⟨m', moff, e2, _, _, hcz⟩ := hz h1
    obtain rfl : m' = m := (congrArg Addr.block (Option.some.inj e2)).symm
    obtain rfl : moff = 0 := (congrArg Addr.off (Option.some.inj e2)).symm
    have hadd : ∀ (b o j : Nat), (⟨b, o, none⟩ : Addr).add j = ⟨b, o + j, none⟩ := fun b o j => by unfold Addr.add; split <;> simp_all
    have hmap : ∀ (ls : List Int) (j : Nat) (z : Value), (ls.map (Value.int .i64))[j]? = some z → ∃ h : j < ls.length, z = .int .i64 ls[j] := fun ls j z hz => by
      have hj : j < ls.length := by have := (List.getElem?_eq_some_iff.1 hz).1; simpa using this
      refine ⟨hj, ?_⟩
      have : (ls.map (Value.int .i64))[j]? = some (.int .i64 ls[j]) := by simp [hj]
      rw [this] at hz; exact (Option.some.inj hz).symm
    have hnext := nextslicecap_le (need := xs.length + zs.length) (old := xs.length) (by omega)
    have hg := run_append_grow (P := Tryd.prog) w _ o.type _ i0 (.int .i64 0) Tryd.underlying28 hi0 hz0 ⟨_, _, none⟩ xs.length xs.length (xs.map (Value.int .i64)) (by simp [hz1]) (fun j z hz' => by
        obtain ⟨hj, rfl⟩ := hmap xs j z hz'
        rw [hadd]; exact hc j hj)
      ⟨_, 0, none⟩ zs.length zs.length (zs.map (Value.int .i64)) (by simp [hz1]) (fun j z hz' => by
        obtain ⟨hj, rfl⟩ := hmap zs j z hz'
        rw [hadd]; exact hcz j hj) (by omega) (by omega) (by rw [hz2]; omega)
    have hge := grownCap_ge w (xs.length + zs.length) xs.length 3
    have hcm := grownCap_le_maxLen w (xs.length + zs.length) xs.length 3 (by simp only [maxLen]; omega)
    have hl2 : (xs ++ zs).length = xs.length + zs.length := by simp
    unfold Oper.wp execOp
    simp only [ho, resolve, invoke, builtin, Sem.run_bind, Sem.run_pure, Result.andThen_ok, List.map_toArray, List.map_cons, List.map_nil, hs, hx, hg]
    rw [← hl2]
    refine hK _ _ (h _ _ _ ⟨⟨by simp, .inr ⟨_, _, _, rfl, Nat.le_refl _, heap_alloc_new w.drew _, by rw [hl2]; exact hge, by rw [hl2]; exact hcm, ?_, ?_⟩⟩, fun k hk => ?_⟩ ((Below.refl w.heap.size w).drew.alloc (Nat.le_refl _) _))
    · simp only [Array.size_append, List.size_toArray, List.length_map, size_zeroCells]
      rw [show (Value.int .i64 0).cells.size = 1 from rfl]
      rw [hl2] at *
      omega
    · simp only [Array.toList_append, ← List.map_append, hl2]
      rw [Nat.mul_one]
      exact List.take_left' (by simp)
    · simp [Value.ownBlock] at hk
      subst hk
      simp
/-- 'append(v, []int{..})': the numbers ys lie in a block just made, and the slice of them in one behind it -/
theorem wp_append_made (hgd : o.guard = none) (s x : Operand) (cs : Array Value) (m : Nat) (ho : o.op = .call { callee := .builtin .append, args := #[s, x], argTypes := #[25, 25] })
    (hs : a.eval s = v) (hx : a.eval x = .slice (some ⟨m, 0, none⟩) 1 1) (hm : m = w.heap.size + 1) (hown : OwnI w lo hi v es) (hcs : cs.toList = ys.map (Value.int .i64)) (hl : lo ≤ w.heap.size) (hy : ys.length ≤ 1048576) (hlen : es.length + 1 ≤ 1099511627776)
    (h : ∀ v' w', OwnI w' lo w'.heap.size v' (es ++ [ys]) → Below lo w w' → (FullI w lo v es.length → FullI w' lo v' (es.length + 1)) → wpList Tryd.prog ops Q rest (a.put o.dst v') w') : wpList Tryd.prog ops Q (o :: rest) a ((w.alloc (.cells cs 3)).alloc (.cells #[.slice (some ⟨w.heap.size, 0, none⟩) ys.length ys.length] 28)) :=
  wpList_plain hgd fun K hK => by
    have hown1 : OwnI (w.alloc (.cells cs 3)) lo w.heap.size v es := (OwnI.inH hown).alloc _
    have hu := Own.made (lo := w.heap.size) (hi := w.heap.size + 1) w ys cs hcs (by simp only [maxLen]; omega) (Nat.le_refl _) (by omega)
    obtain ⟨v', w', hrun, h2, h3, h4, _⟩ := run_append_sl (w := w.alloc (.cells cs 3)) o.type hown1 hu hl (by simp) hlen
    have hsz : (w.alloc (.cells cs 3)).heap.size = m := by rw [hm]; simp
    rw [hsz] at hrun
    unfold Oper.wp execOp
    simp only [ho, resolve, invoke, builtin, Sem.run_bind, Sem.run_pure, Result.andThen_ok, List.map_toArray, List.map_cons, List.map_nil, hs, hx, hrun]
    exact hK _ _ (h v' w' h2 (((Below.refl lo w).alloc hl _).trans h3) fun hf => h4 (hf.alloc _) ⟨_, _, rfl⟩)
end

end Go.Proofs.YtjhbffndiaggmaaDoor
