/-
  Words for memory: a slice of logs that a call has made, log by log; a log put behind it. No statement of the program stands here.
-/
import Derived.Test.YteajjbfecpffeaaMemEE
import Derived.Test.YteajjbfecpffeaaOwnR
namespace Go.Proofs.Yteajjbfecpffeaa
open Go.RowKit Go.ChangeShapes Go.WideShapes
set_option linter.unusedVariables false
set_option linter.unusedSimpArgs false

/-- the slice value v has been made by a call: it holds the logs es; all its memory lies from lo on; the block of v itself is none of its logs' -/
def OwnLL (w : World) (lo : Nat) (v : Value) (es : List (List Ent)) : Prop :=
  ∃ x rows, OwnR w lo w.heap.size 24 1 v rows ∧ v.ownBlock = some x ∧ rows.length = es.length ∧
    ∀ j (hj : j < es.length) (hj' : j < rows.length), ∃ A1 c1 l h, rows[j] = [.slice A1 es[j].length c1] ∧ RdE w l h A1 es[j] ∧ es[j].length ≤ c1 ∧ lo ≤ l ∧ h ≤ w.heap.size ∧ (x < l ∨ h ≤ x)
section
variable {w w' : World} {lo lo' hi hi' B : Nat} {v : Value} {es : List (List Ent)} {e : List Ent}
theorem OwnLL.keep (h : OwnLL w lo v es) (hs : w.heap.size ≤ w'.heap.size) (hk : ∀ k, lo ≤ k → k < w.heap.size → w'.heap[k]? = w.heap[k]?) : OwnLL w' lo v es := by
  obtain ⟨x, rows, h1, h2, h3, h4⟩ := h
  refine ⟨x, rows, (h1.keep fun k _ a _ b => hk k a b).mono (Nat.le_refl _) hs, h2, h3, fun j a b => ?_⟩
  obtain ⟨A1, c1, l, h, e1, e2, e3, e4, e5, e6⟩ := h4 j a b
  exact ⟨A1, c1, l, h, e1, e2.keep fun b o a1 a2 a3 => World.cell?_of_block (w := w) (hk b (by omega) a3), e3, e4, by omega, e6⟩
theorem OwnLL.st (h : OwnLL w lo v es) (hb : Below w.heap.size w w') : OwnLL w' lo v es := h.keep hb.size fun k _ a => hb.block k a
theorem OwnLL.fr (h : OwnLL w lo v es) (hf : Fr lo' hi' w w') (hd : hi' ≤ lo) : OwnLL w' lo v es := h.keep hf.size fun k a b => hf.block k b (by omega)
theorem OwnLL.alloc (h : OwnLL w lo v es) (o : Obj) : OwnLL (w.alloc o) lo v es := h.keep (by simp) fun k _ a => Below.heap_alloc w o k a
theorem OwnLL.drew (h : OwnLL w lo v es) : OwnLL w.drew lo v es := h
theorem OwnLL.mono (h : OwnLL w lo v es) (hl : lo' ≤ lo) : OwnLL w lo' v es := by
  obtain ⟨x, rows, h1, h2, h3, h4⟩ := h
  refine ⟨x, rows, h1.mono hl (Nat.le_refl _), h2, h3, fun j a b => ?_⟩
  obtain ⟨A1, c1, l, h, e1, e2, e3, e4, e5, e6⟩ := h4 j a b
  exact ⟨A1, c1, l, h, e1, e2, e3, by omega, e5, e6⟩
theorem OwnLL.form (h : OwnLL w lo v es) : ∃ D c, v = .slice D es.length c := by
  obtain ⟨x, rows, h1, h2, h3, h4⟩ := h
  obtain ⟨D, c, e, _⟩ := h1.cells
  exact ⟨D, c, by rw [e, h3]⟩
/-- it reads as the logs -/
theorem OwnLL.rd {A : Option Addr} {n c : Nat} (h : OwnLL w lo (.slice A n c) es) : RdEE w lo w.heap.size A es ∧ n = es.length ∧ n ≤ c := by
  obtain ⟨x, rows, h1, h2, h3, h4⟩ := h
  obtain ⟨A', c', he, hc1, hc2, hn, hx⟩ := h1.cells
  injection he with e1 e2 e3
  subst e1 e2 e3
  refine ⟨fun hp => ?_, h3, hc1⟩
  obtain ⟨g, rfl, g1, g2, g3, _, hc⟩ := hx (by omega)
  refine ⟨g, 0, rfl, g1, g2, fun j hj => ?_⟩
  obtain ⟨A1, c1, l, h, e1, e2, e3, e4, e5, e6⟩ := h4 j hj (by omega)
  refine ⟨A1, c1, ?_, e2.mono e4 e5, e3⟩
  have := hc j (by omega) 0 (by omega)
  rw [e1] at this
  simpa using this
/-- its last log -/
theorem OwnLL.last {A : Option Addr} {n c : Nat} (h : OwnLL w lo (.slice A n c) es) (hn : 0 < n) : ∃ g A1 c1 l h, A = some ⟨g, 0, none⟩ ∧ w.cell? ⟨g, n - 1, none⟩ = some (.slice A1 (es[n - 1]?.getD []).length c1) ∧ RdE w l h A1 (es[n - 1]?.getD []) ∧ (es[n - 1]?.getD []).length ≤ c1 ∧ lo ≤ l ∧ h ≤ w.heap.size := by
  obtain ⟨x, rows, h1, h2, h3, h4⟩ := h
  obtain ⟨A', c', he, hc1, hc2, _, hx⟩ := h1.cells
  injection he with e1 e2 e3
  subst e1 e2 e3
  obtain ⟨g, rfl, g1, g2, g3, _, hc⟩ := hx hn
  obtain ⟨A1, c1, l, h, e1, e2, e3, e4, e5, e6⟩ := h4 (rows.length - 1) (by omega) (by omega)
  have hlt : rows.length - 1 < es.length := by omega
  rw [List.getElem?_eq_getElem hlt, Option.getD_some]
  refine ⟨g, A1, c1, l, h, rfl, ?_, e2, e3, e4, e5⟩
  have := hc (rows.length - 1) (by omega) 0 (by omega)
  rw [e1] at this
  simpa using this
/-- a slice literal of one log -/
theorem OwnLL.one {A1 : Option Addr} {c1 l h : Nat} (w : World) (hr : RdE w l h A1 e) (hc : e.length ≤ c1) (hl : lo ≤ l) (hh : h ≤ w.heap.size) (hlo : lo ≤ w.heap.size) : OwnLL (w.alloc (.cells #[.slice A1 e.length c1] 24)) lo (.slice (some ⟨w.heap.size, 0, none⟩) 1 1) [e] := by
  refine ⟨w.heap.size, [[.slice A1 e.length c1]], (OwnR.one (hi := w.heap.size + 1) w _ #[.slice A1 e.length c1] hlo (by omega) rfl).mono (Nat.le_refl _) (by simp), rfl, rfl, fun j a b => ?_⟩
  obtain rfl : j = 0 := by simpa using a
  exact ⟨A1, c1, l, h, rfl, hr.alloc _, hc, hl, by simp; omega, .inr hh⟩
end
section
variable {ops : Array Oper} {rest : List Oper} {o : Oper} {a : Act} {Q : Exit → Act → World → Prop} {w : World} {lo : Nat} {v : Value} {es : List (List Ent)}
/-- 'append(logs, l)' -/
theorem wp_append_log (hgd : o.guard = none) (s x : Operand) {e : List Ent} {A1 : Option Addr} {c1 l h g cc : Nat} (ho : o.op = .call { callee := .builtin .append, args := #[s, x], argTypes := #[32, 32] })
    (hs : a.eval s = v) (hown : OwnLL w lo v es) (hx : a.eval x = .slice (some ⟨g, 0, none⟩) 1 cc) (hb : w.cell? ⟨g, 0, none⟩ = some (.slice A1 e.length c1)) (hr : RdE w l h A1 e) (hc : e.length ≤ c1) (hl : lo ≤ l) (hh : h ≤ w.heap.size)
    (hnew : ∀ k, v.ownBlock = some k → k < l) (hlen : es.length ≤ 1000000) (hlo : lo ≤ w.heap.size)
    (hK : ∀ v' w', OwnLL w' lo v' (es ++ [e]) → Below lo w w' → wpList Try.prog ops Q rest (a.put o.dst v') w') : wpList Try.prog ops Q (o :: rest) a w := by
  obtain ⟨y, rows, h1, h2, h3, h4⟩ := hown
  refine wp_append_rows (news := [[.slice A1 e.length c1]]) (lo := lo) hgd s x ho Try.underlying32 logsTI rfl (by omega) hs h1 hx (fun j hj i hi' => ?_) (by simp) (by intro r hr u hu; simp at hr; subst hr; simp at hu; subst hu; rfl) (by simp; omega) (by omega) hlo ?_
  · obtain rfl : j = 0 := by simpa using hj
    obtain rfl : i = 0 := by omega
    simpa using hb
  · intro v' w' ho' hg hb' hat
    refine hK v' w' ?_ hb'
    have hyl := hnew y h2
    have hsz : w.heap.size ≤ w'.heap.size := hg.size
    have hys : y < w.heap.size := (h1.lt y h2).2.2
    obtain ⟨y', hy', hyy⟩ : ∃ y', v'.ownBlock = some y' ∧ (y' = y ∨ y' = w.heap.size) := by
      rcases hat with hat | hat
      · exact ⟨y, hat.trans h2, .inl rfl⟩
      · exact ⟨_, hat, .inr rfl⟩
    refine ⟨y', rows ++ [[.slice A1 e.length c1]], ho', hy', by simp [h3], fun j a b => ?_⟩
    have kp : ∀ {A : Option Addr} {l h : Nat} {f : List Ent}, RdE w l h A f → h ≤ w.heap.size → (y < l ∨ h ≤ y) → RdE w' l h A f := fun hrd hh' hd =>
      hrd.keep fun b o a1 a2 a3 => World.cell?_of_block (w := w) (hg.block b a3 (fun ee => by rw [h2] at ee; injection ee with ee; omega))
    rw [List.getElem_append]
    by_cases hj : j < es.length
    · rw [List.getElem_append, dif_pos (by omega), dif_pos hj]
      obtain ⟨A2, c2, l2, h2', e1, e2, e3, e4, e5, e6⟩ := h4 j hj (by omega)
      exact ⟨A2, c2, l2, h2', e1, kp e2 e5 e6, e3, e4, by omega, by omega⟩
    · rw [List.getElem_append, dif_neg (by omega), dif_neg hj]
      simp only [List.getElem_singleton]
      exact ⟨A1, c1, l, h, rfl, kp hr hh (by omega), hc, hl, by omega, by omega⟩
end
/-- the walk stands here -/
def Halt (p : Prop) : Prop := p
theorem halt {p : Prop} (h : Halt p) : p := h
theorem Halt.in {p : Prop} (h : p) : Halt p := h
theorem essz_append (a b : List (List Ent)) : esszL (a ++ b) = esszL a + esszL b := by unfold esszL; simp; omega
theorem essz_one (a : List Ent) : esszL [a] = 1 + eszL a := by simp [esszL]
end Go.Proofs.Yteajjbfecpffeaa
