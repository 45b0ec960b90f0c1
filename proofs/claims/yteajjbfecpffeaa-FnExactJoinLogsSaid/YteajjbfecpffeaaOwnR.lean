/-
  Words for memory: slices of structs that a call has made, as rows of cells; a row put behind them; entries, and pairs of entries, read out of such rows. No statement of the program stands here.
-/
import Derived.Test.YteajjbfecpffeaaMemE
namespace Go.Proofs.Yteajjbfecpffeaa
open Go.RowKit
set_option linter.unusedVariables false

/-- the slice value v has been made by a call: the rows lie one behind the other in a block of its own, from lo on and below hi (or it is nil) -/
def OwnR (w : World) (lo hi : Nat) (t : TypeId) (sz : Nat) (v : Value) (rows : List (List Value)) : Prop :=
  w.ownsRow lo t sz v rows.length rows.flatten ∧ (∀ r ∈ rows, r.length = sz) ∧ ∀ k, v.ownBlock = some k → k < hi

theorem flat_len {rows : List (List Value)} {sz : Nat} (h : ∀ r ∈ rows, r.length = sz) : rows.flatten.length = rows.length * sz := by
  induction rows with
  | nil => simp
  | cons r rows ih =>
    rw [List.flatten_cons, List.length_append, ih fun x hx => h x (by simp [hx]), h r (by simp), List.length_cons, Nat.add_mul]
    omega
theorem flat_at {rows : List (List Value)} {sz : Nat} (h : ∀ r ∈ rows, r.length = sz) (j i : Nat) (hj : j < rows.length) (hi : i < sz) : rows.flatten[j * sz + i]? = rows[j][i]? := by
  induction rows generalizing j with
  | nil => exact absurd hj (by simp)
  | cons r rows ih =>
    have hr : r.length = sz := h r (by simp)
    rw [List.flatten_cons]
    cases j with
    | zero => simp only [Nat.zero_mul, Nat.zero_add, List.getElem_cons_zero]; rw [List.getElem?_append_left (by omega)]
    | succ j =>
      have hj' : j < rows.length := by simpa using hj
      rw [List.getElem?_append_right (by rw [hr, Nat.add_mul]; omega), hr, show (j + 1) * sz + i - sz = j * sz + i by rw [Nat.add_mul]; omega, ih (fun x hx => h x (by simp [hx])) j hj', List.getElem_cons_succ]

section
variable {w w' : World} {lo hi lo' hi' B sz : Nat} {t : TypeId} {v : Value} {rows : List (List Value)}
theorem OwnR.nil : OwnR w lo hi t sz (.slice none 0 0) [] := ⟨World.ownsRow_nil _ _ _ _, by simp, fun _ h => by simp [Value.ownBlock] at h⟩
theorem OwnR.lt (h : OwnR w lo hi t sz v rows) : ∀ k, v.ownBlock = some k → lo ≤ k ∧ k < hi ∧ k < w.heap.size := fun k hk => ⟨(h.1.lt k hk).1, h.2.2 k hk, (h.1.lt k hk).2⟩
theorem OwnR.mono (h : OwnR w lo hi t sz v rows) (h1 : lo' ≤ lo) (h2 : hi ≤ hi') : OwnR w lo' hi' t sz v rows := by
  refine ⟨⟨h.1.1, ?_⟩, h.2.1, fun k hk => Nat.lt_of_lt_of_le (h.2.2 k hk) h2⟩
  rcases h.1.2 with hn | ⟨g, cap, cur, e, hb, r⟩
  · exact .inl hn
  · exact .inr ⟨g, cap, cur, e, Nat.le_trans h1 hb, r⟩
theorem OwnR.keep (h : OwnR w lo hi t sz v rows) (hk : ∀ k, v.ownBlock = some k → lo ≤ k → k < hi → k < w.heap.size → w'.heap[k]? = w.heap[k]?) : OwnR w' lo hi t sz v rows := by
  refine ⟨⟨h.1.1, ?_⟩, h.2⟩
  rcases h.1.2 with hn | ⟨g, cap, cur, rfl, hb, hg, r⟩
  · exact .inl hn
  · have hl := h.lt g rfl
    exact .inr ⟨g, cap, cur, rfl, hb, (hk g rfl hl.1 hl.2.1 hl.2.2).trans hg, r⟩
theorem OwnR.below (h : OwnR w lo hi t sz v rows) (hb : Below B w w') (hB : hi ≤ B ∨ w.heap.size ≤ B) : OwnR w' lo hi t sz v rows := h.keep fun k _ _ h2 h3 => hb.block k (by omega)
theorem OwnR.st (h : OwnR w lo hi t sz v rows) (hb : Below w.heap.size w w') : OwnR w' lo hi t sz v rows := h.below hb (.inr (Nat.le_refl _))
theorem OwnR.fr (h : OwnR w lo hi t sz v rows) (hf : Fr lo' hi' w w') (hd : hi ≤ lo' ∨ hi' ≤ lo) : OwnR w' lo hi t sz v rows := h.keep fun k _ h1 h2 h3 => hf.block k h3 (by omega)
theorem OwnR.drewN (h : OwnR w lo hi t sz v rows) (k : Nat) : OwnR (w.drewN k) lo hi t sz v rows := h
theorem OwnR.drew (h : OwnR w lo hi t sz v rows) : OwnR w.drew lo hi t sz v rows := h
theorem OwnR.alloc (h : OwnR w lo hi t sz v rows) (o : Obj) : OwnR (w.alloc o) lo hi t sz v rows := h.keep fun k _ _ _ h3 => Below.heap_alloc w o k h3
theorem OwnR.setCell (h : OwnR w lo hi t sz v rows) {p : Addr} (hp : p.block < lo ∨ hi ≤ p.block) (u : Value) : OwnR (w.setCell p u) lo hi t sz v rows := h.keep fun k _ h1 h2 _ => Below.heap_setCell w p u k (by omega)
theorem OwnR.inH (h : OwnR w lo hi t sz v rows) : OwnR w lo w.heap.size t sz v rows := ⟨h.1, h.2.1, fun k hk => (h.lt k hk).2.2⟩
/-- its parts, where it holds something -/
theorem OwnR.cells (h : OwnR w lo hi t sz v rows) : ∃ A c, v = .slice A rows.length c ∧ rows.length ≤ c ∧ c ≤ maxLen ∧ (A = none → c = 0) ∧ (0 < rows.length → ∃ g, A = some ⟨g, 0, none⟩ ∧ lo ≤ g ∧ g < hi ∧ g < w.heap.size ∧ (∀ j, w.frozen? ⟨g, j, none⟩ = false) ∧ ∀ j (hj : j < rows.length) i, i < sz → w.cell? ⟨g, j * sz + i, none⟩ = rows[j][i]?) := by
  rcases h.1.2 with ⟨rfl, hn⟩ | ⟨g, cap, cur, rfl, hb, hg, hnc, hcm, hsz, htk⟩
  · exact ⟨none, 0, by rw [hn], by omega, by simp [maxLen], fun _ => rfl, fun hp => by omega⟩
  · have hl := h.lt g rfl
    refine ⟨_, cap, rfl, hnc, hcm, fun h => (by cases h), fun hp => ⟨g, rfl, hb, hl.2.1, hl.2.2, fun j => by simp [World.frozen?, hg], fun j hj i hi' => ?_⟩⟩
    rw [cell_of_row w g _ cur _ _ hg, ← flat_at h.2.1 j i hj hi', ← htk, List.getElem?_take]
    have : j * sz + i < rows.length * sz := by
      have h1 : (j + 1) * sz ≤ rows.length * sz := Nat.mul_le_mul_right _ hj
      rw [Nat.add_mul] at h1
      omega
    rw [if_pos this]
    simp
theorem OwnR.of_row (h : w.ownsRow lo t sz v rows.length rows.flatten) (h2 : ∀ r ∈ rows, r.length = sz) (hs : w.heap.size ≤ hi) : OwnR w lo hi t sz v rows :=
  ⟨h, h2, fun k hk => Nat.lt_of_lt_of_le (h.lt k hk).2 hs⟩
/-- a slice literal of one struct, just made -/
theorem OwnR.one (w : World) (t : TypeId) (cs : Array Value) (hlo : lo ≤ w.heap.size) (hhi : w.heap.size < hi) (hs : cs.size = sz) : OwnR (w.alloc (.cells cs t)) lo hi t sz (.slice (some ⟨w.heap.size, 0, none⟩) 1 1) [cs.toList] := by
  refine ⟨⟨by simp [hs], .inr ⟨w.heap.size, 1, cs, rfl, hlo, heap_alloc_new w _, Nat.le_refl _, by simp [maxLen], by simp [hs], ?_⟩⟩, by simp [hs], fun k hk => ?_⟩
  · simp only [List.flatten_cons, List.flatten_nil, List.append_nil]
    exact List.take_of_length_le (by simp [hs])
  · simp [Value.ownBlock] at hk; omega
end

section
variable {ops : Array Oper} {rest : List Oper} {o : Oper} {a : Act} {Q : Exit → Act → World → Prop} {w : World} {lo hi sz : Nat} {v : Value} {rows : List (List Value)} {t ts : TypeId}
/-- 'append(v, x..)' : the rows of a slice in a block of its own behind the rows of v -/
theorem wp_append_rows (hgd : o.guard = none) (s x : Operand) {by_ : Nat} {z : Value} {news : List (List Value)} {m c : Nat} (ho : o.op = .call { callee := .builtin .append, args := #[s, x], argTypes := #[ts, ts] })
    (ht : Try.prog.underlying ts = some (.slice t)) (hin : (Try.prog.info? t).map (fun i => (i.zero, i.size, i.bytes)) = some (some z, sz, by_)) (hz : z.cells.size = sz) (hs0 : 0 < sz)
    (hs : a.eval s = v) (hown : OwnR w lo hi t sz v rows) (hx : a.eval x = .slice (some ⟨m, 0, none⟩) news.length c) (hcell : ∀ j (hj : j < news.length) i, i < sz → w.cell? ⟨m, j * sz + i, none⟩ = news[j][i]?) (hnl : ∀ r ∈ news, r.length = sz) (h1 : ∀ r ∈ news, ∀ u ∈ r, u.oneCell' = true)
    (hlen : rows.length + news.length ≤ 1073741824) (hby : by_ ≤ 1000) (hlo : lo ≤ w.heap.size)
    (h : ∀ v' w', OwnR w' lo w'.heap.size t sz v' (rows ++ news) → w.grownBy w' v.ownBlock → Below lo w w' → (v'.ownBlock = v.ownBlock ∨ v'.ownBlock = some w.heap.size) → wpList Try.prog ops Q rest (a.put o.dst v') w') : wpList Try.prog ops Q (o :: rest) a w :=
  wpList_plain hgd fun K hK => by
    obtain ⟨i0, hi0, hz0, hz1, hz2⟩ := info_parts hin
    have hadd : ∀ j, (⟨m, 0, none⟩ : Addr).add j = ⟨m, j, none⟩ := fun j => by unfold Addr.add; split <;> simp_all
    have hnews : ∀ j u, news.flatten[j]? = some u → w.cell? ((⟨m, 0, none⟩ : Addr).add j) = some u := by
      intro j u hu
      have hj : j < news.length * sz := by have := (List.getElem?_eq_some_iff.1 hu).1; rwa [flat_len hnl] at this
      have e : j = j / sz * sz + j % sz := by rw [Nat.mul_comm]; exact (Nat.div_add_mod j sz).symm
      have hq : j / sz < news.length := (Nat.div_lt_iff_lt_mul hs0).2 hj
      have hm : j % sz < sz := Nat.mod_lt _ hs0
      rw [hadd]
      rw [e] at hu ⊢
      rw [flat_at hnl _ _ hq hm] at hu
      rw [hcell _ hq _ hm, hu]
    have hone : ∀ u ∈ news.flatten, u.oneCell' = true := fun u hu => by
      obtain ⟨r, hr, hur⟩ := List.mem_flatten.1 hu
      exact h1 r hr u hur
    have hby2 : (rows.length + news.length) * by_ ≤ 140737488355328 := by
      have : (rows.length + news.length) * by_ ≤ 1073741824 * 1000 := Nat.mul_le_mul hlen hby
      omega
    obtain ⟨v', w', hrun, h2, h3, _, h5⟩ := run_append_own_at (P := Try.prog) w lo ts o.type t i0 z sz by_ ht hi0 hz0 hz1 hz2 hz hs0 v rows.length _ hown.1 ⟨m, 0, none⟩ news.length c news.flatten (flat_len hnl) hnews hone (by simp only [maxLen]; omega) hby2 hlo
    have hO : OwnR w' lo w'.heap.size t sz v' (rows ++ news) := OwnR.of_row (by rw [List.length_append, List.flatten_append]; exact h2) (fun r hr => by
      rcases List.mem_append.1 hr with hr | hr
      · exact hown.2.1 r hr
      · exact hnl r hr) (Nat.le_refl _)
    unfold Oper.wp execOp
    simp only [ho, resolve, invoke, builtin, Sem.run_bind, Sem.run_pure, Result.andThen_ok, List.map_toArray, List.map_cons, List.map_nil, hs, hx, hrun]
    exact hK _ _ (h v' w' hO h3 ((Below.refl lo w).grown h3 hlo (fun k hk => (hown.lt k hk).1)) h5)
end

/-! ### rows that read as entries -/
/-- the row r is entry e; its slices read in the world w -/
def EntRow (w : World) (lo hi : Nat) (e : Ent) (r : List Value) : Prop :=
  ∃ A1 c1 A2 c2, r = [.int .i64 e.time, .int .i64 e.msg, .int .i64 e.part, .slice A1 e.seen.length c1, .slice A2 e.shown.length c2] ∧ Rd w lo hi A1 e.seen ∧ Rd w lo hi A2 e.shown
theorem EntRow.len {w : World} {lo hi : Nat} {e : Ent} {r : List Value} (h : EntRow w lo hi e r) : r.length = 5 := by
  obtain ⟨A1, c1, A2, c2, rfl, _⟩ := h; rfl
theorem EntRow.one {w : World} {lo hi : Nat} {e : Ent} {r : List Value} (h : EntRow w lo hi e r) : ∀ u ∈ r, u.oneCell' = true := by
  obtain ⟨A1, c1, A2, c2, rfl, _⟩ := h
  intro u hu
  simp at hu
  rcases hu with rfl | rfl | rfl | rfl | rfl <;> rfl
theorem EntRow.keep {w w' : World} {lo hi : Nat} {e : Ent} {r : List Value} (h : EntRow w lo hi e r) (hk : ∀ b o, lo ≤ b → b < hi → b < w.heap.size → w'.cell? ⟨b, o, none⟩ = w.cell? ⟨b, o, none⟩) : EntRow w' lo hi e r := by
  obtain ⟨A1, c1, A2, c2, rfl, r1, r2⟩ := h
  exact ⟨A1, c1, A2, c2, rfl, r1.keep hk, r2.keep hk⟩
theorem EntRow.mono {w : World} {lo hi lo' hi' : Nat} {e : Ent} {r : List Value} (h : EntRow w lo hi e r) (h1 : lo' ≤ lo) (h2 : hi ≤ hi') : EntRow w lo' hi' e r := by
  obtain ⟨A1, c1, A2, c2, rfl, r1, r2⟩ := h
  exact ⟨A1, c1, A2, c2, rfl, r1.mono h1 h2, r2.mono h1 h2⟩
theorem EntRow.std {w : World} {lo hi : Nat} {e : Ent} {r : List Value} (h : EntRow w lo hi e r) : EntRow w 0 w.heap.size e r := by
  obtain ⟨A1, c1, A2, c2, rfl, r1, r2⟩ := h
  exact ⟨A1, c1, A2, c2, rfl, r1.std, r2.std⟩
/-- a row in memory is an entry -/
theorem EntRow.at_ {w : World} {lo hi b o : Nat} {e : Ent} {r : List Value} (h : EntRow w lo hi e r) (hc : ∀ i, i < 5 → w.cell? ⟨b, o + i, none⟩ = r[i]?) : EntAt w lo hi b o e := by
  obtain ⟨A1, c1, A2, c2, rfl, r1, r2⟩ := h
  exact ⟨A1, c1, A2, c2, by simpa using hc 0 (by omega), by simpa using hc 1 (by omega), by simpa using hc 2 (by omega), by simpa using hc 3 (by omega), by simpa using hc 4 (by omega), r1, r2⟩

/-- rows that are the entries es, one by one -/
def EntRows (w : World) (lo hi : Nat) (es : List Ent) (rows : List (List Value)) : Prop := rows.length = es.length ∧ ∀ j (h : j < es.length) (h' : j < rows.length), EntRow w lo hi es[j] rows[j]
theorem EntRows.nil {w : World} {lo hi : Nat} : EntRows w lo hi [] [] := ⟨rfl, fun j h => absurd h (by simp)⟩
theorem EntRows.snoc {w : World} {lo hi : Nat} {es : List Ent} {rows : List (List Value)} {e : Ent} {r : List Value} (h : EntRows w lo hi es rows) (hr : EntRow w lo hi e r) : EntRows w lo hi (es ++ [e]) (rows ++ [r]) := by
  refine ⟨by simp [h.1], fun j h1 h2 => ?_⟩
  rw [List.getElem_append, List.getElem_append]
  have := h.1
  by_cases hj : j < es.length
  · rw [dif_pos hj, dif_pos (by omega)]; exact h.2 j hj (by omega)
  · rw [dif_neg hj, dif_neg (by omega)]; simpa using hr
theorem EntRows.append {w : World} {lo hi : Nat} {es es2 : List Ent} {rows rows2 : List (List Value)} (h : EntRows w lo hi es rows) (h2 : EntRows w lo hi es2 rows2) : EntRows w lo hi (es ++ es2) (rows ++ rows2) := by
  refine ⟨by simp [h.1, h2.1], fun j h3 h4 => ?_⟩
  rw [List.getElem_append, List.getElem_append]
  have e1 := h.1
  have e2 := h2.1
  simp at h3 h4
  by_cases hj : j < es.length
  · rw [dif_pos hj, dif_pos (by omega)]; exact h.2 j hj (by omega)
  · rw [dif_neg hj, dif_neg (by omega)]
    have := h2.2 (j - es.length) (by omega) (by omega)
    simp only [e1]
    exact this
theorem EntRows.keep {w w' : World} {lo hi : Nat} {es : List Ent} {rows : List (List Value)} (h : EntRows w lo hi es rows) (hk : ∀ b o, lo ≤ b → b < hi → b < w.heap.size → w'.cell? ⟨b, o, none⟩ = w.cell? ⟨b, o, none⟩) : EntRows w' lo hi es rows :=
  ⟨h.1, fun j h1 h2 => (h.2 j h1 h2).keep hk⟩
theorem EntRows.mono {w : World} {lo hi lo' hi' : Nat} {es : List Ent} {rows : List (List Value)} (h : EntRows w lo hi es rows) (h1 : lo' ≤ lo) (h2 : hi ≤ hi') : EntRows w lo' hi' es rows :=
  ⟨h.1, fun j h3 h4 => (h.2 j h3 h4).mono h1 h2⟩
theorem EntRows.std {w : World} {lo hi : Nat} {es : List Ent} {rows : List (List Value)} (h : EntRows w lo hi es rows) : EntRows w 0 w.heap.size es rows := ⟨h.1, fun j h3 h4 => (h.2 j h3 h4).std⟩
theorem EntRows.st {w w' : World} {lo hi : Nat} {es : List Ent} {rows : List (List Value)} (h : EntRows w lo hi es rows) (hb : Below w.heap.size w w') : EntRows w' lo hi es rows := h.keep fun b o _ _ h3 => hb.cell (p := ⟨b, o, none⟩) h3
theorem EntRows.below {w w' : World} {lo hi B : Nat} {es : List Ent} {rows : List (List Value)} (h : EntRows w lo hi es rows) (hb : Below B w w') (hB : hi ≤ B) : EntRows w' lo hi es rows := h.keep fun b o _ h2 _ => hb.cell (p := ⟨b, o, none⟩) (by show b < B; omega)
theorem EntRows.mem {w : World} {lo hi : Nat} {es : List Ent} {rows : List (List Value)} (h : EntRows w lo hi es rows) : ∀ r ∈ rows, r.length = 5 := fun r hr => by
  obtain ⟨j, hj, rfl⟩ := List.getElem_of_mem hr
  exact (h.2 j (by rw [← h.1]; exact hj) hj).len
theorem EntRows.oneC {w : World} {lo hi : Nat} {es : List Ent} {rows : List (List Value)} (h : EntRows w lo hi es rows) : ∀ r ∈ rows, ∀ u ∈ r, u.oneCell' = true := fun r hr => by
  obtain ⟨j, hj, rfl⟩ := List.getElem_of_mem hr
  exact (h.2 j (by rw [← h.1]; exact hj) hj).one
/-- a made slice of rows that are entries reads as the entries -/
theorem OwnR.rdE {w : World} {lo hi l h : Nat} {A : Option Addr} {n c : Nat} {es : List Ent} {rows : List (List Value)} (ho : OwnR w lo hi 49 5 (.slice A n c) rows) (hr : EntRows w l h es rows) : RdE w 0 w.heap.size A es ∧ n = es.length ∧ n ≤ c ∧ c ≤ maxLen ∧ (A = none → c = 0) := by
  obtain ⟨A', c', he, hc1, hc2, hn, hx⟩ := ho.cells
  injection he with e1 e2 e3
  subst e1 e2 e3
  refine ⟨fun hp => ?_, hr.1, hc1, hc2, hn⟩
  obtain ⟨g, rfl, g1, g2, g3, _, hc⟩ := hx (by rw [hr.1]; exact hp)
  exact ⟨g, 0, rfl, Nat.zero_le _, g3, fun j hj => (((hr.2 j hj (by rw [hr.1]; exact hj)).at_ (b := g) (o := j * 5) fun i hi' => hc j (by rw [hr.1]; exact hj) i hi').std) |> fun h => by rwa [Nat.zero_add]⟩
/-- an entry that is read is a row -/
theorem EntAt.row {w : World} {lo hi b o : Nat} {e : Ent} (h : EntAt w lo hi b o e) : ∃ r, EntRow w lo hi e r ∧ ∀ i, i < 5 → w.cell? ⟨b, o + i, none⟩ = r[i]? := by
  obtain ⟨A1, c1, A2, c2, x0, x1, x2, x3, x4, r1, r2⟩ := h
  refine ⟨_, ⟨A1, c1, A2, c2, rfl, r1, r2⟩, fun i hi' => ?_⟩
  match i, hi' with
  | 0, _ => simpa using x0
  | 1, _ => simpa using x1
  | 2, _ => simpa using x2
  | 3, _ => simpa using x3
  | 4, _ => simpa using x4
end Go.Proofs.Yteajjbfecpffeaa
