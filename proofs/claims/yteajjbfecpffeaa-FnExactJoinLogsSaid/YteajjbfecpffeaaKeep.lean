/-
  Words for memory: what a growing slice of structs leaves alone of slices of integers. No statement of the program stands here.
-/
import Derived.Test.YteajjbfecpffeaaEntOwn
namespace Go.Proofs.Yteajjbfecpffeaa
open Go.RowKit Go.ChangeShapes Go.WideShapes
set_option linter.unusedVariables false
set_option linter.unusedSimpArgs false

section
variable {w w' : World} {lo hi lo' hi' sz sz' : Nat} {t t' : TypeId} {v v' : Value} {rows rows' : List (List Value)}
/-- the block of such a slice: its type -/
theorem OwnR.blockT (h : OwnR w lo hi t sz v rows) : ∀ k, v.ownBlock = some k → ∃ cur, w.heap[k]? = some (.cells cur t (0, 0)) := fun k hk => by
  rcases h.1.2 with ⟨rfl, _⟩ | ⟨g, cap, cur, rfl, hb, hg, _⟩
  · simp [Value.ownBlock] at hk
  · obtain rfl : g = k := by simpa [Value.ownBlock] using hk
    exact ⟨cur, hg⟩
/-- what is appended to a slice of another type leaves it alone -/
theorem OwnR.keepT (h : OwnR w lo hi t sz v rows) (h' : OwnR w lo' hi' t' sz' v' rows') (hg : w.grownBy w' v'.ownBlock) (hne : t' ≠ t) : OwnR w' lo hi t sz v rows :=
  h.keep fun k hk _ _ hlt => hg.block k hlt (fun e => by
    obtain ⟨c1, e1⟩ := h.blockT k hk
    obtain ⟨c2, e2⟩ := h'.blockT k e.symm
    rw [e1] at e2
    injection e2 with e2
    injection e2 with _ e2 _
    exact hne e2.symm)
end
section
variable {w w' : World} {lo hi lo' hi' sz' : Nat} {u : Value} {zs : List Int} {e : Ent} {r : List Value} {es : List Ent} {rows rows' : List (List Value)} {v' : Value} {t' : TypeId}
/-- blocks of integers are as they were: so are slices of integers that a call has made -/
def KeepI (w w' : World) : Prop := ∀ (k : Nat) (cs : Array Value), w.heap[k]? = some (Obj.cells cs 3 (0, 0)) → w'.heap[k]? = w.heap[k]?
theorem KeepI.grown (h' : OwnR w lo' hi' t' sz' v' rows') (hg : w.grownBy w' v'.ownBlock) (hne : t' ≠ 3) : KeepI w w' := fun k cs hk =>
  hg.block k (Array.getElem?_eq_some_iff.1 hk).1 (fun e => by
    obtain ⟨c2, e2⟩ := h'.blockT k e.symm
    rw [hk] at e2
    injection e2 with e2
    injection e2 with _ e2 _
    exact hne e2.symm)
theorem Own.keepI (h : Own w lo hi u zs) (hk : KeepI w w') : Own w' lo hi u zs := h.keep fun k hkk _ _ _ => by
  rcases h.1.2 with ⟨rfl, _⟩ | ⟨g, cap, cur, rfl, hb, hg, _⟩
  · simp [Value.ownBlock] at hkk
  · obtain rfl : g = k := by simpa [Value.ownBlock] using hkk
    exact hk _ _ hg
theorem EntOwn.keepI (h : EntOwn w lo hi e r) (hk : KeepI w w') : EntOwn w' lo hi e r := by
  obtain ⟨u, v, rfl, a, b, d⟩ := h
  exact ⟨u, v, rfl, a.keepI hk, b.keepI hk, d⟩
theorem EntsOwn.keepI (h : EntsOwn w lo hi es rows) (hk : KeepI w w') : EntsOwn w' lo hi es rows := ⟨h.len, fun j a b => (h.ent j a b).keepI hk, h.dj⟩
theorem EntOwn.len (h : EntOwn w lo hi e r) : r.length = 5 := h.row.len
theorem EntsOwn.mem {s : List Value} (h : EntsOwn w lo hi es rows) (hs : s ∈ rows) : ∃ e, EntOwn w lo hi e s := by
  obtain ⟨j, hj, rfl⟩ := List.getElem_of_mem hs
  exact ⟨_, h.ent j (by rw [← h.len]; exact hj) hj⟩
end

end Go.Proofs.Yteajjbfecpffeaa
