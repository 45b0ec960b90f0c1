/-
  Words for memory: slices of slices of integers, read and made; a slice put behind them. No statement of the program stands here.
-/
import Derived.Test.YtjhbffndiaggmaaGreatDoorBSS5
namespace Go.Proofs.YtjhbffndiaggmaaGreatDoor
open Go.RowKit
set_option linter.unusedVariables false

/-- the slice value with address A reads as the lists xss -/
def RdI (w : World) (lo hi : Nat) (A : Option Addr) (xss : List (List Int)) : Prop :=
  0 < xss.length → ∃ b off, A = some ⟨b, off, none⟩ ∧ lo ≤ b ∧ b < hi ∧ ∀ j (hj : j < xss.length), ∃ A1 c1, w.cell? ⟨b, off + j, none⟩ = some (.slice A1 xss[j].length c1) ∧ Rd w lo hi A1 xss[j]

section
variable {w w' : World} {lo hi lo' hi' B : Nat} {A : Option Addr} {es : List (List Int)}
theorem RdI.nil : RdI w lo hi A [] := fun h => absurd h (by simp)
theorem RdI.mono (h : RdI w lo hi A es) (h1 : lo' ≤ lo) (h2 : hi ≤ hi') : RdI w lo' hi' A es := fun hp => by
  obtain ⟨b, off, e, a1, a2, hc⟩ := h hp
  refine ⟨b, off, e, by omega, by omega, fun j hj => ?_⟩
  obtain ⟨A1, c1, x, r⟩ := hc j hj
  exact ⟨A1, c1, x, r.mono h1 h2⟩
theorem RdI.std (h : RdI w lo hi A es) : RdI w 0 w.heap.size A es := fun hp => by
  obtain ⟨b, off, e, _, _, hc⟩ := h hp
  refine ⟨b, off, e, Nat.zero_le _, ?_, fun j hj => ?_⟩
  · obtain ⟨A1, c1, x, r⟩ := hc 0 hp
    exact World.block_lt_of_cell? w _ x
  · obtain ⟨A1, c1, x, r⟩ := hc j hj
    exact ⟨A1, c1, x, r.std⟩
theorem RdI.keep (h : RdI w lo hi A es) (hk : ∀ b o, lo ≤ b → b < hi → b < w.heap.size → w'.cell? ⟨b, o, none⟩ = w.cell? ⟨b, o, none⟩) : RdI w' lo hi A es := fun hp => by
  obtain ⟨b, off, e, a1, a2, hc⟩ := h hp
  refine ⟨b, off, e, a1, a2, fun j hj => ?_⟩
  obtain ⟨A1, c1, x, r⟩ := hc j hj
  exact ⟨A1, c1, (hk _ _ a1 a2 (World.block_lt_of_cell? w _ x)).trans x, r.keep hk⟩
theorem RdI.below (h : RdI w lo hi A es) (hb : Below B w w') (hB : hi ≤ B) : RdI w' lo hi A es := h.keep fun b o _ h2 _ => hb.cell (p := ⟨b, o, none⟩) (by show b < B; omega)
theorem RdI.st (h : RdI w lo hi A es) (hb : Below w.heap.size w w') : RdI w' lo hi A es := h.keep fun b o _ _ h3 => hb.cell (p := ⟨b, o, none⟩) h3
theorem RdI.fr (h : RdI w lo hi A es) (hf : Fr lo' hi' w w') (hd : hi ≤ lo' ∨ hi' ≤ lo) : RdI w' lo hi A es :=
  h.keep fun b o h1 h2 h3 => World.cell?_of_block (w := w) (hf.block b h3 (by omega))
theorem RdI.drew (h : RdI w lo hi A es) : RdI w.drew lo hi A es := h
theorem RdI.drewN (h : RdI w lo hi A es) (k : Nat) : RdI (w.drewN k) lo hi A es := h
theorem RdI.alloc (h : RdI w lo hi A es) (o : Obj) : RdI (w.alloc o) lo hi A es := h.keep fun b o' _ _ h3 => World.cell?_alloc_lt w o _ (by exact h3)
end

/-- no two of these slices share a block -/
def DjU (n : Nat) (U : Nat → Value) : Prop := ∀ i j, i < n → j < n → i ≠ j → Dj (U i) (U j)
theorem Dj.symm {p q : Value} (h : Dj p q) : Dj q p := by
  unfold Dj at *
  cases hq : q.ownBlock with
  | none => exact .inl rfl
  | some z =>
    right
    rcases h with h | h
    · rw [h]; simp
    · rw [← hq]; exact fun e => h e.symm

/-- the slice value v has been made by a call: a block of its own that holds slices of its own, no two of them in one block -/
def OwnI (w : World) (lo hi : Nat) (v : Value) (es : List (List Int)) : Prop :=
  (v = .slice none 0 0 ∧ es = []) ∨
  ∃ g cap cur U, v = .slice (some ⟨g, 0, none⟩) es.length cap ∧ lo ≤ g ∧ g < hi ∧ w.heap[g]? = some (.cells cur 24 (0, 0)) ∧ es.length ≤ cap ∧ cap ≤ maxLen ∧ cur.size = cap ∧
    (∀ j (hj : j < es.length), cur[j]? = some (U j) ∧ Own w lo hi (U j) es[j]) ∧ DjU es.length U

section
variable {w w' : World} {lo hi lo' hi' B g : Nat} {v : Value} {es : List (List Int)}
theorem OwnI.nil : OwnI w lo hi (.slice none 0 0) [] := .inl ⟨rfl, rfl⟩
theorem OwnI.mono (h : OwnI w lo hi v es) (h1 : lo' ≤ lo) (h2 : hi ≤ hi') : OwnI w lo' hi' v es := by
  rcases h with h | ⟨g, cap, cur, U, e, a1, a2, hg, c1, c2, c3, hj, hd⟩
  · exact .inl h
  · exact .inr ⟨g, cap, cur, U, e, by omega, by omega, hg, c1, c2, c3, fun j h => ⟨(hj j h).1, (hj j h).2.mono h1 h2⟩, hd⟩
theorem OwnI.keep (h : OwnI w lo hi v es) (hk : ∀ k, lo ≤ k → k < hi → k < w.heap.size → w'.heap[k]? = w.heap[k]?) : OwnI w' lo hi v es := by
  rcases h with h | ⟨g, cap, cur, U, e, a1, a2, hg, c1, c2, c3, hj, hd⟩
  · exact .inl h
  · exact .inr ⟨g, cap, cur, U, e, a1, a2, (hk g a1 a2 (Array.getElem?_eq_some_iff.1 hg).1).trans hg, c1, c2, c3, fun j h => ⟨(hj j h).1, (hj j h).2.keep fun k _ => hk k⟩, hd⟩
theorem OwnI.inH (h : OwnI w lo hi v es) : OwnI w lo w.heap.size v es := by
  rcases h with h | ⟨g, cap, cur, U, e, a1, a2, hg, c1, c2, c3, hj, hd⟩
  · exact .inl h
  · exact .inr ⟨g, cap, cur, U, e, a1, (Array.getElem?_eq_some_iff.1 hg).1, hg, c1, c2, c3, fun j h => ⟨(hj j h).1, (hj j h).2.1, fun k hk => ((hj j h).2.lt k hk).2.2⟩, hd⟩
theorem OwnI.st (h : OwnI w lo hi v es) (hb : Below w.heap.size w w') : OwnI w' lo hi v es := h.keep fun k _ _ h3 => hb.block k h3
theorem OwnI.below (h : OwnI w lo hi v es) (hb : Below B w w') (hB : hi ≤ B ∨ w.heap.size ≤ B) : OwnI w' lo hi v es := h.keep fun k _ h2 h3 => hb.block k (by omega)
theorem OwnI.fr (h : OwnI w lo hi v es) (hf : Fr lo' hi' w w') (hd : hi ≤ lo' ∨ hi' ≤ lo) : OwnI w' lo hi v es := h.keep fun k h1 h2 h3 => hf.block k h3 (by omega)
theorem OwnI.drew (h : OwnI w lo hi v es) : OwnI w.drew lo hi v es := h
theorem OwnI.drewN (h : OwnI w lo hi v es) (k : Nat) : OwnI (w.drewN k) lo hi v es := h
theorem OwnI.alloc (h : OwnI w lo hi v es) (o : Obj) : OwnI (w.alloc o) lo hi v es := h.keep fun k _ _ h3 => Below.heap_alloc w o k h3
theorem OwnI.rd (h : OwnI w lo hi v es) : ∃ A c, v = .slice A es.length c ∧ RdI w lo hi A es ∧ c ≤ maxLen := by
  rcases h with ⟨rfl, rfl⟩ | ⟨g, cap, cur, U, rfl, a1, a2, hg, c1, c2, c3, hj, hd⟩
  · exact ⟨none, 0, rfl, RdI.nil, by simp [maxLen]⟩
  · refine ⟨_, cap, rfl, fun hp => ⟨g, 0, rfl, a1, a2, fun j h => ?_⟩, c2⟩
    obtain ⟨x0, hu⟩ := hj j h
    obtain ⟨A1, d1, e1, r1, _⟩ := hu.rd
    have hc : ∀ i, w.cell? ⟨g, i, none⟩ = cur[i]? := fun i => cell_of_row w g i cur _ _ hg
    rw [Nat.zero_add]
    exact ⟨A1, d1, (hc _).trans (x0.trans (by rw [e1])), r1⟩
theorem OwnI.rd' {A : Option Addr} {n c : Nat} (h : OwnI w lo hi (.slice A n c) es) : RdI w lo hi A es := by
  obtain ⟨A', c', he, hr, _⟩ := h.rd
  injection he with h1 h2 h3
  subst h1
  exact hr
theorem OwnI.lt (h : OwnI w lo hi v es) : ∀ k, v.ownBlock = some k → lo ≤ k ∧ k < hi ∧ k < w.heap.size := by
  rcases h with ⟨rfl, rfl⟩ | ⟨g, cap, cur, U, rfl, a1, a2, hg, _⟩
  · intro k hk; simp [Value.ownBlock] at hk
  · intro k hk
    simp [Value.ownBlock] at hk
    subst hk
    exact ⟨a1, a2, (Array.getElem?_eq_some_iff.1 hg).1⟩
/-- a slice of integers never lies in a block of slices -/
theorem Own.ne_sl {u : Value} {s : List Int} {cur : Array Value} (h : Own w lo hi u s) (hg : w.heap[g]? = some (.cells cur 24 (0, 0))) : u.ownBlock ≠ some g := by
  rcases h.1.2 with ⟨rfl, _⟩ | ⟨g', cap, cur', rfl, _, hh, _⟩
  · simp [Value.ownBlock]
  · intro he
    have : g' = g := by simpa [Value.ownBlock] using he
    subst this
    rw [hg] at hh
    injection hh with hh
    injection hh with _ ht
    exact absurd ht (by decide)
/-- as the library's laws on append have it -/
theorem OwnI.row (h : OwnI w lo hi v es) : ∃ xs : List Value, w.ownsRow lo 24 1 v es.length xs ∧ xs.length = es.length ∧ ∃ U, (∀ j (hj : j < es.length), xs[j]? = some (U j) ∧ Own w lo hi (U j) es[j]) ∧ DjU es.length U := by
  rcases h with ⟨rfl, rfl⟩ | ⟨g, cap, cur, U, rfl, a1, a2, hg, c1, c2, c3, hj, hd⟩
  · exact ⟨[], World.ownsRow_nil _ _ _ _, rfl, fun _ => undef, fun j hj => absurd hj (by simp), fun i j hi => absurd hi (by simp)⟩
  · refine ⟨cur.toList.take es.length, ⟨by simp; omega, .inr ⟨g, cap, cur, rfl, a1, hg, c1, c2, by omega, by simp⟩⟩, by simp; omega, U, fun j h => ⟨?_, (hj j h).2⟩, hd⟩
    rw [List.getElem?_take, if_pos h]
    simpa using (hj j h).1
theorem OwnI.of_row {xs : List Value} {U : Nat → Value} (h : w.ownsRow lo 24 1 v es.length xs) (hs : w.heap.size ≤ hi) (hj : ∀ j (hj : j < es.length), xs[j]? = some (U j) ∧ Own w lo hi (U j) es[j]) (hd : DjU es.length U) : OwnI w lo hi v es := by
  rcases h.2 with ⟨rfl, hn⟩ | ⟨g, cap, cur, rfl, hb, hg, hnc, hcm, hsz, htk⟩
  · exact .inl ⟨rfl, List.eq_nil_of_length_eq_zero hn⟩
  · have hl := (Array.getElem?_eq_some_iff.1 hg).1
    refine .inr ⟨g, cap, cur, U, rfl, hb, by omega, hg, hnc, hcm, by omega, fun j h => ⟨?_, (hj j h).2⟩, hd⟩
    have h1 := (hj j h).1
    rw [← htk, List.getElem?_take, if_pos (by omega)] at h1
    simpa using h1
end

theorem Below.drewR {B : Nat} {w w' : World} (h : Below B w.drew w') : Below B w w' := ⟨h.os, h.tape, h.output, h.size, h.block⟩
/-- what a made row holds is determined by the memory -/
theorem ownsRow_unique {w : World} {b1 b2 n : Nat} {t : TypeId} {v : Value} {xs ys : List Value} (h1 : w.ownsRow b1 t 1 v n xs) (h2 : w.ownsRow b2 t 1 v n ys) : xs = ys := by
  rcases h1.2 with ⟨rfl, hn⟩ | ⟨g, cap, cur, rfl, hb, hg, hnc, hcm, hsz, htk⟩
  · subst hn
    have e1 := h1.1
    have e2 := h2.1
    simp at e1 e2
    rw [e1, e2]
  · rcases h2.2 with ⟨h, _⟩ | ⟨g', cap', cur', he, hb', hg', hnc', hcm', hsz', htk'⟩
    · cases h
    · injection he with e1 e2 e3
      injection e1 with e1
      injection e1 with e1
      subst e1
      rw [hg] at hg'
      injection hg' with hg'
      injection hg' with hg'
      subst hg'
      rw [← htk, ← htk']
/-- the slices that v holds have no room behind their numbers -/
def FullI (w : World) (lo : Nat) (v : Value) (n : Nat) : Prop := ∃ xs, w.ownsRow lo 24 1 v n xs ∧ ∀ x ∈ xs, ∃ A m, x = Value.slice A m m
theorem FullI.nil {w : World} {lo : Nat} : FullI w lo (.slice none 0 0) 0 := ⟨[], World.ownsRow_nil _ _ _ _, fun x h => absurd h (by simp)⟩
theorem FullI.keep {w w' : World} {lo n : Nat} {v : Value} (h : FullI w lo v n) (hk : ∀ k, v.ownBlock = some k → lo ≤ k → k < w.heap.size → w'.heap[k]? = w.heap[k]?) : FullI w' lo v n := by
  obtain ⟨xs, hr, hf⟩ := h
  refine ⟨xs, ⟨hr.1, ?_⟩, hf⟩
  rcases hr.2 with hn | ⟨g, cap, cur, rfl, hb, hg, r⟩
  · exact .inl hn
  · exact .inr ⟨g, cap, cur, rfl, hb, (hk g rfl hb (Array.getElem?_eq_some_iff.1 hg).1).trans hg, r⟩
theorem FullI.st {w w' : World} {lo n : Nat} {v : Value} (h : FullI w lo v n) (hb : Below w.heap.size w w') : FullI w' lo v n := h.keep fun k _ _ h3 => hb.block k h3
theorem FullI.alloc {w : World} {lo n : Nat} {v : Value} (h : FullI w lo v n) (o : Obj) : FullI (w.alloc o) lo v n := h.keep fun k _ _ h3 => Below.heap_alloc w o k h3
/-- a slice of full slices, read -/
theorem FullI.at_ {w : World} {lo hi n : Nat} {v : Value} {es : List (List Int)} (h : FullI w lo v n) (ho : OwnI w lo hi v es) (j : Nat) (hj : j < es.length) :
    ∃ g A1, v.ownBlock = some g ∧ w.cell? ⟨g, j, none⟩ = some (.slice A1 es[j].length es[j].length) ∧ Rd w lo hi A1 es[j] := by
  obtain ⟨xs, hr, hf⟩ := h
  rcases ho with ⟨_, rfl⟩ | ⟨g, cap, cur, U, rfl, a1, a2, hg, c1, c2, c3, hjj, hd⟩
  · exact absurd hj (by simp)
  · obtain ⟨x0, hu⟩ := hjj j hj
    obtain ⟨A1, d1, e1, r1, _⟩ := hu.rd
    refine ⟨g, A1, rfl, ?_, r1⟩
    have hc : w.cell? ⟨g, j, none⟩ = some (U j) := (cell_of_row w g j cur _ _ hg).trans x0
    rw [hc]
    rcases hr.2 with ⟨h, _⟩ | ⟨g', cap', cur', he, hb', hg', hnc', hcm', hsz', htk'⟩
    · cases h
    · injection he with e2 e3 e4
      injection e2 with e2
      injection e2 with e2
      subst e2
      rw [hg] at hg'
      injection hg' with hg'
      injection hg' with hg'
      subst hg'
      have hm : U j ∈ xs := by
        rw [← htk']
        have : cur.toList[j]? = some (U j) := by simpa using x0
        rw [List.mem_take_iff_getElem]
        obtain ⟨hl, he2⟩ := List.getElem?_eq_some_iff.1 this
        exact ⟨j, by omega, he2⟩
      obtain ⟨A2, m, e5⟩ := hf _ hm
      rw [e1] at e5 ⊢
      injection e5 with e6 e7 e8
      rw [e8, e7]

/-- the blocks from P0 on and below P1 are as they were -/
def Kp (P0 P1 : Nat) (w w' : World) : Prop := ∀ b, P0 ≤ b → b < P1 → w'.heap[b]? = w.heap[b]?
theorem Kp.refl (P0 P1 : Nat) (w : World) : Kp P0 P1 w w := fun _ _ _ => rfl
theorem Kp.trans {P0 P1 : Nat} {w w' w'' : World} (h : Kp P0 P1 w w') (k : Kp P0 P1 w' w'') : Kp P0 P1 w w'' := fun b h1 h2 => (k b h1 h2).trans (h b h1 h2)
theorem Kp.below {P0 P1 B : Nat} {w w' : World} (h : Below B w w') (hb : P1 ≤ B) : Kp P0 P1 w w' := fun b _ h2 => h.block b (by omega)
theorem Kp.grown {P0 P1 : Nat} {w w' : World} {row : Option Nat} (h : w.grownBy w' row) (hs : P1 ≤ w.heap.size) (hr : ∀ b, row = some b → b < P0 ∨ P1 ≤ b) : Kp P0 P1 w w' := fun b h1 h2 => h.block b (by omega) (fun e => by have := hr b e.symm; omega)

theorem own_addr {w : World} {lo n m c b off g : Nat} (h : FullI w lo (.slice (some ⟨b, off, none⟩) m c) n) (hg : (Value.slice (some ⟨b, off, none⟩) m c).ownBlock = some g) : b = g ∧ off = 0 := by
  obtain ⟨xs, hr, _⟩ := h
  rcases hr.2 with ⟨h, _⟩ | ⟨g', cap, cur, he, _⟩
  · cases h
  · injection he with e1 e2 e3
    have e4 := congrArg Addr.block (Option.some.inj e1)
    have e5 := congrArg Addr.off (Option.some.inj e1)
    refine ⟨?_, e5⟩
    simpa [Value.ownBlock] using hg
theorem slInfo : (Tryz.prog.info? 24).map (fun i => (i.zero, i.size, i.bytes)) = some (some (.slice none 0 0), 1, 24) := by kernel_rfl

section
variable {ops : Array Oper} {rest : List Oper} {o : Oper} {a : Act} {Q : Exit → Act → World → Prop} {w : World} {lo hi hi2 : Nat} {v u : Value} {es : List (List Int)} {ys : List Int}
theorem run_append_sl (ty : TypeId) (hown : OwnI w lo hi v es) (hu : Own w hi hi2 u ys) (hl : lo ≤ hi) (hh : hi ≤ w.heap.size) (hlen : es.length + 1 ≤ 1099511627776) :
    ∃ v' w', (Builtin.append_ #[146, 146] ty #[v, .slice (some ⟨w.heap.size, 0, none⟩) 1 1]).run Tryz.prog (w.alloc (.cells #[u] 24)) = .ok v' w' ∧ OwnI w' lo w'.heap.size v' (es ++ [ys]) ∧ Below lo w w' ∧ (FullI w lo v es.length → (∃ A m, u = .slice A m m) → FullI w' lo v' (es.length + 1)) ∧ w.grownBy w' v.ownBlock ∧ (v'.ownBlock = v.ownBlock ∨ v'.ownBlock = some (w.heap.size + 1)) := by
  obtain ⟨i0, hi0, hz0, hz1, hz2⟩ := info_parts slInfo
  obtain ⟨xs, hrow, hxl, U, hU, hD⟩ := hown.row
  have h1 : ∀ z ∈ [u], z.oneCell' = true := by
    intro z hz
    simp at hz
    subst hz
    obtain ⟨A, c, rfl, _⟩ := hu.rd
    rfl
  have hnews : ∀ j z, [u][j]? = some z → (w.alloc (.cells #[u] 24)).cell? ((⟨w.heap.size, 0, none⟩ : Addr).add j) = some z := World.news_of_block (cs := #[u]) (t := 24) (fr := (0, 0)) (heap_alloc_new w _)
  obtain ⟨v', w', hrun, h2, h3, _, h5⟩ := run_append_own_at (P := Tryz.prog) (w.alloc (.cells #[u] 24)) lo _ ty _ i0 (.slice none 0 0) 1 24 Tryz.underlying146 hi0 hz0 hz1 hz2 rfl (by omega) v es.length xs (hrow.alloc _) ⟨w.heap.size, 0, none⟩ 1 1 [u] (by simp) hnews h1
    (by simp only [maxLen]; omega) (by omega) (by simp; omega)
  have hgr : w.grownBy w' v.ownBlock := by
    refine ⟨h3.os, h3.tape, h3.output, Nat.le_trans (by simp) h3.size, fun k hk hne => ?_⟩
    rw [h3.block k (by simp; omega) hne]
    exact Below.heap_alloc w _ k hk
  have hkeep : ∀ {l h : Nat} {z : Value} {s : List Int}, Own w l h z s → (h ≤ hi ∨ hi ≤ l) → Own w' l h z s := fun {l h z s} ho hd => by
    refine ho.keep fun k hk h1' h2' h3' => hgr.block k h3' (fun e => ?_)
    rcases hown with ⟨rfl, _⟩ | ⟨g, cap, cur, U', rfl, a1, a2, hg, _⟩
    · simp [Value.ownBlock] at e
    · have : k = g := by simpa [Value.ownBlock] using e
      subst this
      exact ho.ne_sl hg hk
  refine ⟨v', w', hrun, ?_, (Below.refl lo w).grown hgr (by omega) (fun k hk => (hown.lt k hk).1), fun ⟨xs', hr', hf'⟩ hu' => ⟨xs ++ [u], h2, fun x hx => by
    rcases List.mem_append.1 hx with hx | hx
    · rw [ownsRow_unique hrow hr'] at hx; exact hf' x hx
    · simp at hx; subst hx; exact hu'⟩, hgr, by simpa using h5⟩
  have hsz : w.heap.size + 1 ≤ w'.heap.size := by have := h3.size; simpa using this
  have hu2 : hi2 ≤ w'.heap.size ∨ Own w' lo w'.heap.size u ys := .inr (by
    have := hkeep hu (.inr (Nat.le_refl _))
    exact ⟨(this.mono hl (Nat.le_refl _)).1, fun k hk => (this.lt k hk).2.2⟩)
  have huo : Own w' lo w'.heap.size u ys := by
    have := hkeep hu (.inr (Nat.le_refl _))
    exact ⟨(this.mono hl (Nat.le_refl _)).1, fun k hk => (this.lt k hk).2.2⟩
  have hlen2 : (es ++ [ys]).length = es.length + 1 := by simp
  refine OwnI.of_row (U := fun j => if j = es.length then u else U j) (by rw [hlen2]; exact h2) (Nat.le_refl _) ?_ ?_
  · intro j hj
    rw [hlen2] at hj
    by_cases he : j = es.length
    · subst he
      simp only [if_true]
      refine ⟨?_, by simpa using huo⟩
      rw [List.getElem?_append_right (by omega), hxl]
      simp
    · simp only [if_neg he]
      have hjl : j < es.length := by omega
      refine ⟨?_, ?_⟩
      · rw [List.getElem?_append_left (by omega)]
        exact (hU j hjl).1
      · rw [List.getElem_append_left hjl]
        exact (hkeep (hU j hjl).2 (.inl (Nat.le_refl _))).mono (Nat.le_refl _) (by omega)
  · rw [hlen2]
    intro i j hi' hj' hne
    have hdu : ∀ k, k < es.length → Dj (U k) u := fun k hk => Dj.of_lt (hU k hk).2 hu (Nat.le_refl _)
    by_cases h1 : i = es.length
    · have h2 : j ≠ es.length := fun h => hne (by rw [h1, h])
      simp only [h1, if_true, if_neg h2]
      exact (hdu j (by omega)).symm
    · by_cases h2 : j = es.length
      · simp only [h2, if_true, if_neg h1]
        exact hdu i (by omega)
      · simp only [if_neg h1, if_neg h2]
        exact hD i j (by omega) (by omega) hne

/-- 'append(v, u)' of a slice u that has just been made -/
theorem wp_append_sl (hgd : o.guard = none) (s x : Operand) (ho : o.op = .call { callee := .builtin .append, args := #[s, x], argTypes := #[146, 146] })
    (hs : a.eval s = v) (hx : a.eval x = .slice (some ⟨w.heap.size, 0, none⟩) 1 1) (hown : OwnI w lo hi v es) (hu : Own w hi hi2 u ys) (hl : lo ≤ hi) (hh : hi ≤ w.heap.size) (hlen : es.length + 1 ≤ 1099511627776)
    (h : ∀ v' w', OwnI w' lo w'.heap.size v' (es ++ [ys]) → Below lo w w' → w.grownBy w' v.ownBlock → (v'.ownBlock = v.ownBlock ∨ v'.ownBlock = some (w.heap.size + 1)) → wpList Tryz.prog ops Q rest (a.put o.dst v') w') : wpList Tryz.prog ops Q (o :: rest) a (w.alloc (.cells #[u] 24)) :=
  wpList_plain hgd fun K hK => by
    obtain ⟨v', w', hrun, h2, h3, _, h5, h6⟩ := run_append_sl o.type hown hu hl hh hlen
    unfold Oper.wp execOp
    simp only [ho, resolve, invoke, builtin, Sem.run_bind, Sem.run_pure, Result.andThen_ok, List.map_toArray, List.map_cons, List.map_nil, hs, hx, hrun]
    exact hK _ _ (h v' w' h2 h3 h5 h6)
/-- 'append(x, n)' of one number behind a slice without room: a block of its own -/
theorem wp_append_full (hgd : o.guard = none) (s x : Operand) {b off m : Nat} {xs zs : List Int} (ho : o.op = .call { callee := .builtin .append, args := #[s, x], argTypes := #[24, 24] })
    (hs : a.eval s = .slice (some ⟨b, off, none⟩) xs.length xs.length) (hx : a.eval x = .slice (some ⟨m, 0, none⟩) zs.length zs.length) (hr : Rd w 0 w.heap.size (some ⟨b, off, none⟩) xs) (hz : Rd w 0 w.heap.size (some ⟨m, 0, none⟩) zs) (h0 : 0 < xs.length) (h1 : 0 < zs.length) (hlen : xs.length + zs.length ≤ 1048576)
    (h : ∀ A' c' w', Own w' w.heap.size w'.heap.size (.slice A' (xs ++ zs).length c') (xs ++ zs) → Below w.heap.size w w' → wpList Tryz.prog ops Q rest (a.put o.dst (.slice A' (xs ++ zs).length c')) w') : wpList Tryz.prog ops Q (o :: rest) a w :=
  wpList_plain hgd fun K hK => by
    obtain ⟨i0, hi0, hz0, hz1, hz2⟩ := info_parts intInfo
    obtain ⟨b', off', e1, _, _, hc⟩ := hr h0
    obtain rfl : b' = b := (congrArg Addr.block (Option.some.inj e1)).symm
    obtain rfl : off' = off := (congrArg Addr.off (Option.some.inj e1)).symm
    obtain ⟨m', moff, e2, _, _, hcz⟩ := hz h1
    obtain rfl : m' = m := (congrArg Addr.block (Option.some.inj e2)).symm
    obtain rfl : moff = 0 := (congrArg Addr.off (Option.some.inj e2)).symm
    have hadd : ∀ (b o j : Nat), (⟨b, o, none⟩ : Addr).add j = ⟨b, o + j, none⟩ := fun b o j => by unfold Addr.add; split <;> simp_all
    have hmap : ∀ (ls : List Int) (j : Nat) (z : Value), (ls.map (Value.int .i64))[j]? = some z → ∃ h : j < ls.length, z = .int .i64 ls[j] := fun ls j z hz => by
      have hj : j < ls.length := by have := (List.getElem?_eq_some_iff.1 hz).1; simpa using this
      refine ⟨hj, ?_⟩
      have : (ls.map (Value.int .i64))[j]? = some (.int .i64 ls[j]) := by simp [hj]
      rw [this] at hz; exact (Option.some.inj hz).symm
    have hnext := nextslicecap_le (need := xs.length + zs.length) (old := xs.length) (by omega)
    have hg := run_append_grow (P := Tryz.prog) w _ o.type _ i0 (.int .i64 0) Tryz.underlying24 hi0 hz0 ⟨_, _, none⟩ xs.length xs.length (xs.map (Value.int .i64)) (by simp [hz1]) (fun j z hz' => by
        obtain ⟨hj, rfl⟩ := hmap xs j z hz'
        rw [hadd]; exact hc j hj)
      ⟨_, 0, none⟩ zs.length zs.length (zs.map (Value.int .i64)) (by simp [hz1]) (fun j z hz' => by
        obtain ⟨hj, rfl⟩ := hmap zs j z hz'
        rw [hadd]; exact hcz j hj) (by omega) (by omega) (by rw [hz2]; omega)
    have hge := grownCap_ge w (xs.length + zs.length) xs.length 3
    have hcm := grownCap_le_maxLen w (xs.length + zs.length) xs.length 3 (by simp only [maxLen]; omega)
    have hl2 : (xs ++ zs).length = xs.length + zs.length := by simp
    unfold Oper.wp execOp
    simp only [ho, resolve, invoke, builtin, Sem.run_bind, Sem.run_pure, Result.andThen_ok, List.map_toArray, List.map_cons, List.map_nil, hs, hx, hg]
    rw [← hl2]
    refine hK _ _ (h _ _ _ ⟨⟨by simp, .inr ⟨_, _, _, rfl, Nat.le_refl _, heap_alloc_new w.drew _, by rw [hl2]; exact hge, by rw [hl2]; exact hcm, ?_, ?_⟩⟩, fun k hk => ?_⟩ ((Below.refl w.heap.size w).drew.alloc (Nat.le_refl _) _))
    · simp only [Array.size_append, List.size_toArray, List.length_map, size_zeroCells]
      rw [show (Value.int .i64 0).cells.size = 1 from rfl]
      rw [hl2] at *
      omega
    · simp only [Array.toList_append, ← List.map_append, hl2]
      rw [Nat.mul_one]
      exact List.take_left' (by simp)
    · simp [Value.ownBlock] at hk
      subst hk
      simp
/-- 'append(v, []int{..})': the numbers ys lie in a block just made, and the slice of them in one behind it -/
theorem wp_append_made (hgd : o.guard = none) (s x : Operand) (cs : Array Value) (m : Nat) (ho : o.op = .call { callee := .builtin .append, args := #[s, x], argTypes := #[146, 146] })
    (hs : a.eval s = v) (hx : a.eval x = .slice (some ⟨m, 0, none⟩) 1 1) (hm : m = w.heap.size + 1) (hown : OwnI w lo hi v es) (hcs : cs.toList = ys.map (Value.int .i64)) (hl : lo ≤ w.heap.size) (hy : ys.length ≤ 1048576) (hlen : es.length + 1 ≤ 1099511627776)
    (h : ∀ v' w', OwnI w' lo w'.heap.size v' (es ++ [ys]) → Below lo w w' → (FullI w lo v es.length → FullI w' lo v' (es.length + 1)) → wpList Tryz.prog ops Q rest (a.put o.dst v') w') : wpList Tryz.prog ops Q (o :: rest) a ((w.alloc (.cells cs 3)).alloc (.cells #[.slice (some ⟨w.heap.size, 0, none⟩) ys.length ys.length] 24)) :=
  wpList_plain hgd fun K hK => by
    have hown1 : OwnI (w.alloc (.cells cs 3)) lo w.heap.size v es := (OwnI.inH hown).alloc _
    have hu := Own.made (lo := w.heap.size) (hi := w.heap.size + 1) w ys cs hcs (by simp only [maxLen]; omega) (Nat.le_refl _) (by omega)
    obtain ⟨v', w', hrun, h2, h3, h4, _⟩ := run_append_sl (w := w.alloc (.cells cs 3)) o.type hown1 hu hl (by simp) hlen
    have hsz : (w.alloc (.cells cs 3)).heap.size = m := by rw [hm]; simp
    rw [hsz] at hrun
    unfold Oper.wp execOp
    simp only [ho, resolve, invoke, builtin, Sem.run_bind, Sem.run_pure, Result.andThen_ok, List.map_toArray, List.map_cons, List.map_nil, hs, hx, hrun]
    exact hK _ _ (h v' w' h2 (((Below.refl lo w).alloc hl _).trans h3) fun hf => h4 (hf.alloc _) ⟨_, _, rfl⟩)
end

end Go.Proofs.YtjhbffndiaggmaaGreatDoor
