/-
  Contracts and plain laws that the walk uses, several texts in one. The conditions are named ahead of each.
-/
import Derived.Test.YtjhbffndiaggmaaGreatDoorProg
import Derived.KernelRfl
import Derived.WalkKit
import Derived.ProofKit
import Derived.OpenShut
import Derived.Lib.Hide
import Derived.Deep.Draws
import Derived.Deep.AppendLies
import Derived.Maps.AppendAt

/-
  Words for memory that the proofs of this claim share: slices of integers that read as a list, within an interval of blocks; what a call leaves alone. No statement of the program stands here.
-/
namespace Go.Proofs.YtjhbffndiaggmaaGreatDoor
open Go.RowKit

theorem hidden {p : Prop} (h : p) : Hid p := h

/-! ### what a call leaves alone -/
/-- blocks that were there and do not lie from 'lo' on and below 'hi' are as they were. -/
structure Fr (lo hi : Nat) (w w' : World) : Prop where
  os : w'.os = w.os
  tape : w'.tape = w.tape
  output : w'.output = w.output
  size : w.heap.size ≤ w'.heap.size
  block : ∀ k, k < w.heap.size → (k < lo ∨ hi ≤ k) → w'.heap[k]? = w.heap[k]?

section
variable {w w' w'' : World} {lo hi lo' hi' B : Nat}
theorem Fr.refl (lo hi : Nat) (w : World) : Fr lo hi w w := ⟨rfl, rfl, rfl, Nat.le_refl _, fun _ _ _ => rfl⟩
theorem Fr.trans (h : Fr lo hi w w') (k : Fr lo hi w' w'') : Fr lo hi w w'' :=
  ⟨k.os.trans h.os, k.tape.trans h.tape, k.output.trans h.output, Nat.le_trans h.size k.size, fun i hi1 hi2 => (k.block i (Nat.lt_of_lt_of_le hi1 h.size) hi2).trans (h.block i hi1 hi2)⟩
theorem Fr.mono (h : Fr lo hi w w') (h1 : lo' ≤ lo) (h2 : hi ≤ hi') : Fr lo' hi' w w' := ⟨h.os, h.tape, h.output, h.size, fun k hk hd => h.block k hk (by omega)⟩
theorem Fr.of_below (h : Below B w w') (hB : w.heap.size ≤ B) : Fr lo hi w w' := ⟨h.os, h.tape, h.output, h.size, fun k hk _ => h.block k (by omega)⟩
theorem Fr.of_below' (h : Below B w w') (hB : lo ≤ B) (hh : w.heap.size ≤ hi) : Fr lo hi w w' := ⟨h.os, h.tape, h.output, h.size, fun k hk hd => h.block k (by omega)⟩
theorem Fr.below (h : Fr lo hi w w') (hB : B ≤ lo) (hs : B ≤ w.heap.size) : Below B w w' := ⟨h.os, h.tape, h.output, h.size, fun k hk => h.block k (by omega) (by omega)⟩
theorem Fr.grown {row : Option Nat} (hg : w.grownBy w' row) (hr : ∀ k, row = some k → lo ≤ k ∧ k < hi) : Fr lo hi w w' :=
  ⟨hg.os, hg.tape, hg.output, hg.size, fun k hk hd => hg.block k hk (fun e => by have := hr k e.symm; omega)⟩
theorem Fr.setCell (h : Fr lo hi w w') {p : Addr} (hp : lo ≤ p.block ∧ p.block < hi) (u : Value) : Fr lo hi w (w'.setCell p u) :=
  h.trans ⟨rfl, rfl, rfl, by simp [World.setCell], fun k _ hd => Below.heap_setCell _ _ _ _ (by omega)⟩
theorem Fr.drew (h : Fr lo hi w w') : Fr lo hi w w'.drew := ⟨h.os, h.tape, h.output, h.size, h.block⟩
theorem Fr.drewN (h : Fr lo hi w w') (n : Nat) : Fr lo hi w (w'.drewN n) := ⟨h.os, h.tape, h.output, h.size, h.block⟩
theorem Fr.alloc (h : Fr lo hi w w') (o : Obj) : Fr lo hi w (w'.alloc o) := h.trans ⟨rfl, rfl, rfl, by simp, fun k hk _ => Below.heap_alloc _ _ _ hk⟩
theorem below_drewN (h : Below B w w') (n : Nat) : Below B w (w'.drewN n) := ⟨h.os, h.tape, h.output, h.size, h.block⟩
theorem below_refl_drewN (n : Nat) : Below B w (w.drewN n) := below_drewN (Below.refl _ _) n
theorem bcell (hb : Below w.heap.size w w') : (∀ b o, b < w.heap.size → w'.cell? ⟨b, o, none⟩ = w.cell? ⟨b, o, none⟩) ∧ (∀ b o, b < w.heap.size → w'.frozen? ⟨b, o, none⟩ = w.frozen? ⟨b, o, none⟩) :=
  ⟨fun b o h => hb.cell (p := ⟨b, o, none⟩) h, fun b o h => hb.frozen (p := ⟨b, o, none⟩) h⟩
end

/-! ### a slice of integers that reads as a list -/
/-- the slice value with address 'A' reads as the integers 'zs', in a block from 'lo' on and below 'hi'. -/
def Rd (w : World) (lo hi : Nat) (A : Option Addr) (zs : List Int) : Prop :=
  0 < zs.length → ∃ b off, A = some ⟨b, off, none⟩ ∧ lo ≤ b ∧ b < hi ∧ ∀ j (hj : j < zs.length), w.cell? ⟨b, off + j, none⟩ = some (.int .i64 zs[j])

section
variable {w w' : World} {lo hi lo' hi' B : Nat} {A : Option Addr} {zs : List Int}
theorem Rd.nil : Rd w lo hi A [] := fun h => absurd h (by simp)
theorem Rd.mono (h : Rd w lo hi A zs) (h1 : lo' ≤ lo) (h2 : hi ≤ hi') : Rd w lo' hi' A zs := fun hp => by
  obtain ⟨b, off, e, a1, a2, hc⟩ := h hp
  exact ⟨b, off, e, by omega, by omega, hc⟩
theorem Rd.keep (h : Rd w lo hi A zs) (hk : ∀ b o, lo ≤ b → b < hi → b < w.heap.size → w'.cell? ⟨b, o, none⟩ = w.cell? ⟨b, o, none⟩) : Rd w' lo hi A zs := fun hp => by
  obtain ⟨b, off, e, a1, a2, hc⟩ := h hp
  have hlt := World.block_lt_of_cell? w _ (hc 0 hp)
  exact ⟨b, off, e, a1, a2, fun j hj => (hk b _ a1 a2 hlt).trans (hc j hj)⟩
theorem Rd.below (h : Rd w lo hi A zs) (hb : Below B w w') (hB : hi ≤ B) : Rd w' lo hi A zs := h.keep fun b o _ h2 _ => hb.cell (p := ⟨b, o, none⟩) (by show b < B; omega)
theorem Rd.fr (h : Rd w lo hi A zs) (hf : Fr lo' hi' w w') (hd : hi ≤ lo' ∨ hi' ≤ lo) : Rd w' lo hi A zs :=
  h.keep fun b o h1 h2 h3 => World.cell?_of_block (w := w) (hf.block b h3 (by omega))
theorem Rd.std (h : Rd w lo hi A zs) : Rd w 0 w.heap.size A zs := fun hp => by
  obtain ⟨b, off, e, _, _, hc⟩ := h hp
  exact ⟨b, off, e, Nat.zero_le _, World.block_lt_of_cell? w _ (hc 0 hp), hc⟩
theorem Rd.st (h : Rd w lo hi A zs) (hb : Below w.heap.size w w') : Rd w' lo hi A zs := h.keep fun b o _ _ h3 => hb.cell (p := ⟨b, o, none⟩) h3
theorem Rd.drewN (h : Rd w lo hi A zs) (k : Nat) : Rd (w.drewN k) lo hi A zs := h
theorem Rd.drew (h : Rd w lo hi A zs) : Rd w.drew lo hi A zs := h
theorem Rd.alloc (h : Rd w lo hi A zs) (o : Obj) : Rd (w.alloc o) lo hi A zs := h.keep fun b o' _ _ h3 => World.cell?_alloc_lt w o _ (by exact h3)
theorem Rd.setCell (h : Rd w lo hi A zs) {p : Addr} (hp : hi ≤ p.block) (u : Value) : Rd (w.setCell p u) lo hi A zs :=
  h.keep fun b o _ h2 _ => World.cell?_setCell_other w p _ u (fun e => by subst e; simp at hp; omega)
end

/-- the slice value v has been made by a call: it holds 'zs' at the head of a block of its own, which may be written, from 'lo' on and below 'hi' (or it is nil). -/
def Own (w : World) (lo hi : Nat) (v : Value) (zs : List Int) : Prop :=
  w.ownsRow lo 3 1 v zs.length (zs.map (Value.int .i64)) ∧ ∀ k, v.ownBlock = some k → k < hi

section
variable {w w' : World} {lo hi lo' hi' B : Nat} {v : Value} {zs : List Int}
theorem Own.nil : Own w lo hi (.slice none 0 0) [] := ⟨World.ownsRow_nil _ _ _ _, fun _ h => by simp [Value.ownBlock] at h⟩
theorem Own.of_row (h : w.ownsRow lo 3 1 v zs.length (zs.map (Value.int .i64))) (hs : w.heap.size ≤ hi) : Own w lo hi v zs :=
  ⟨h, fun k hk => Nat.lt_of_lt_of_le (h.lt k hk).2 hs⟩
theorem Own.lt (h : Own w lo hi v zs) : ∀ k, v.ownBlock = some k → lo ≤ k ∧ k < hi ∧ k < w.heap.size := fun k hk => ⟨(h.1.lt k hk).1, h.2 k hk, (h.1.lt k hk).2⟩
theorem Own.mono (h : Own w lo hi v zs) (h1 : lo' ≤ lo) (h2 : hi ≤ hi') : Own w lo' hi' v zs := by
  refine ⟨⟨h.1.1, ?_⟩, fun k hk => Nat.lt_of_lt_of_le (h.2 k hk) h2⟩
  rcases h.1.2 with hn | ⟨g, cap, cur, e, hb, r⟩
  · exact .inl hn
  · exact .inr ⟨g, cap, cur, e, Nat.le_trans h1 hb, r⟩
theorem Own.keep (h : Own w lo hi v zs) (hk : ∀ k, v.ownBlock = some k → lo ≤ k → k < hi → k < w.heap.size → w'.heap[k]? = w.heap[k]?) : Own w' lo hi v zs := by
  refine ⟨⟨h.1.1, ?_⟩, h.2⟩
  rcases h.1.2 with hn | ⟨g, cap, cur, rfl, hb, hg, r⟩
  · exact .inl hn
  · have hl := h.lt g rfl
    exact .inr ⟨g, cap, cur, rfl, hb, (hk g rfl hl.1 hl.2.1 hl.2.2).trans hg, r⟩
theorem Own.below (h : Own w lo hi v zs) (hb : Below B w w') (hB : hi ≤ B ∨ w.heap.size ≤ B) : Own w' lo hi v zs := h.keep fun k _ _ h2 h3 => hb.block k (by omega)
theorem Own.st (h : Own w lo hi v zs) (hb : Below w.heap.size w w') : Own w' lo hi v zs := h.below hb (.inr (Nat.le_refl _))
theorem Own.fr (h : Own w lo hi v zs) (hf : Fr lo' hi' w w') (hd : hi ≤ lo' ∨ hi' ≤ lo) : Own w' lo hi v zs := h.keep fun k _ h1 h2 h3 => hf.block k h3 (by omega)
theorem Own.drewN (h : Own w lo hi v zs) (k : Nat) : Own (w.drewN k) lo hi v zs := h
theorem Own.drew (h : Own w lo hi v zs) : Own w.drew lo hi v zs := h
theorem Own.alloc (h : Own w lo hi v zs) (o : Obj) : Own (w.alloc o) lo hi v zs := h.keep fun k _ _ _ h3 => Below.heap_alloc w o k h3
theorem Own.setCell (h : Own w lo hi v zs) {p : Addr} (hp : p.block < lo ∨ hi ≤ p.block) (u : Value) : Own (w.setCell p u) lo hi v zs := h.keep fun k _ h1 h2 _ => Below.heap_setCell w p u k (by omega)
/-- what is owned is a slice value that reads as its list -/
theorem Own.rd (h : Own w lo hi v zs) : ∃ A c, v = .slice A zs.length c ∧ Rd w lo hi A zs ∧ c ≤ maxLen := by
  rcases h.1.2 with ⟨rfl, hn⟩ | ⟨g, cap, cur, rfl, hb, hg, hnc, hcm, hsz, htk⟩
  · exact ⟨none, 0, by rw [hn], fun hp => by omega, by simp [maxLen]⟩
  · refine ⟨_, cap, rfl, fun hp => ⟨g, 0, rfl, hb, h.2 g rfl, fun j hj => ?_⟩, hcm⟩
    rw [Nat.zero_add, cell_of_row w g j cur _ _ hg]
    have h1 : (cur.toList.take (zs.length * 1))[j]? = some (.int .i64 zs[j]) := by rw [htk]; simp [hj]
    rw [List.getElem?_take] at h1
    rw [if_pos (by omega)] at h1
    simpa using h1
/-- where it holds something: its block, and that it may be written -/
theorem Own.at_ (h : Own w lo hi v zs) (hn : 0 < zs.length) : ∃ g c, v = .slice (some ⟨g, 0, none⟩) zs.length c ∧ lo ≤ g ∧ g < hi ∧ g < w.heap.size ∧ (∀ j (_hj : j < zs.length), w.cell? ⟨g, j, none⟩ = some (.int .i64 zs[j])) ∧ (∀ j, w.frozen? ⟨g, j, none⟩ = false) := by
  rcases h.1.2 with ⟨rfl, h0⟩ | ⟨g, cap, cur, rfl, hb, hg, hnc, hcm, hsz, htk⟩
  · omega
  · have hl := h.lt g rfl
    refine ⟨g, cap, rfl, hl.1, hl.2.1, hl.2.2, fun j hj => ?_, fun j => ?_⟩
    · rw [cell_of_row w g j cur _ _ hg]
      have h1 : (cur.toList.take (zs.length * 1))[j]? = some (.int .i64 zs[j]) := by rw [htk]; simp [hj]
      rw [List.getElem?_take] at h1
      rw [if_pos (by omega)] at h1
      simpa using h1
    · simp [World.frozen?, hg]
/-- a store into it -/
theorem Own.stored {g n c j : Nat} (h : Own w lo hi (.slice (some ⟨g, 0, none⟩) n c) zs) (z : Int) :
    Own (w.setCell ⟨g, j, none⟩ (.int .i64 z)) lo hi (.slice (some ⟨g, 0, none⟩) n c) (zs.set j z) := by
  have hn : n = zs.length := by
    rcases h.1.2 with ⟨he, _⟩ | ⟨g', cap, cur, he, _⟩
    · cases he
    · injection he
  subst hn
  have h1 := h.1.stored j (.int .i64 z)
  rw [← List.map_set] at h1
  exact ⟨by rw [List.length_set]; exact h1.1, h.2⟩
theorem Own.len {A : Option Addr} {n c : Nat} (h : Own w lo hi (.slice A n c) zs) : n = zs.length ∧ n ≤ c := by
  rcases h.1.2 with ⟨he, h0⟩ | ⟨g', cap, cur, he, _, _, hc, _⟩
  · injection he with h1 h2 h3; omega
  · injection he with h1 h2 h3; omega
theorem Own.rd' {A : Option Addr} {n c : Nat} (h : Own w lo hi (.slice A n c) zs) : Rd w lo hi A zs := by
  obtain ⟨A', c', he, hr, _⟩ := h.rd
  injection he with h1 h2 h3
  subst h1
  exact hr
/-- a slice just made with room for n numbers -/
theorem Own.made (w : World) (zs : List Int) (cs : Array Value) (hcs : cs.toList = zs.map (Value.int .i64)) (hl : zs.length ≤ maxLen) (hlo : lo ≤ w.heap.size) (hhi : w.heap.size < hi) :
    Own (w.alloc (.cells cs 3)) lo hi (.slice (some ⟨w.heap.size, 0, none⟩) zs.length zs.length) zs := by
  have hs : cs.size = zs.length := by have := congrArg List.length hcs; simpa using this
  refine ⟨⟨by simp, .inr ⟨w.heap.size, zs.length, cs, rfl, hlo, heap_alloc_new w _, Nat.le_refl _, hl, by omega, ?_⟩⟩, fun k hk => ?_⟩
  · rw [hcs, List.take_of_length_le (by simp)]
  · simp [Value.ownBlock] at hk; omega
end

theorem size_setCell (w : World) (p : Addr) (u : Value) : (w.setCell p u).heap.size = w.heap.size := by simp [World.setCell]

/-! ### a block that is known whole -/
/-- block g is just the cells cs of type t; none is frozen. -/
def Bk (w : World) (g : Nat) (t : TypeId) (cs : Array Value) : Prop := w.heap[g]? = some (.cells cs t (0, 0))
section
variable {w w' : World} {g lo hi B : Nat} {t : TypeId} {cs : Array Value}
theorem Bk.lt (h : Bk w g t cs) : g < w.heap.size := (Array.getElem?_eq_some_iff.1 h).1
theorem Bk.cell (h : Bk w g t cs) (i : Nat) : w.cell? ⟨g, i, none⟩ = cs[i]? := cell_of_row w g i cs t (0, 0) h
theorem Bk.frozen (h : Bk w g t cs) (i : Nat) : w.frozen? ⟨g, i, none⟩ = false := by unfold Bk at h; simp [World.frozen?, h]
theorem Bk.new (w : World) (t : TypeId) (cs : Array Value) : Bk (w.alloc (.cells cs t)) w.heap.size t cs := heap_alloc_new w _
theorem Bk.new2 (w : World) (o : Obj) (t : TypeId) (cs : Array Value) : Bk ((w.alloc o).alloc (.cells cs t)) (w.heap.size + 1) t cs := by
  have h := Bk.new (w.alloc o) t cs
  have e : (w.alloc o).heap.size = w.heap.size + 1 := by simp
  rwa [e] at h
theorem Bk.new3 (w : World) (o o' : Obj) (t : TypeId) (cs : Array Value) : Bk (((w.alloc o).alloc o').alloc (.cells cs t)) (w.heap.size + 2) t cs := by
  have h := Bk.new ((w.alloc o).alloc o') t cs
  have e : ((w.alloc o).alloc o').heap.size = w.heap.size + 2 := by simp
  rwa [e] at h
theorem Bk.keep (h : Bk w g t cs) (hk : w'.heap[g]? = w.heap[g]?) : Bk w' g t cs := hk.trans h
theorem Bk.drew (h : Bk w g t cs) : Bk w.drew g t cs := h
theorem Bk.drewN (h : Bk w g t cs) (n : Nat) : Bk (w.drewN n) g t cs := h
theorem Bk.alloc (h : Bk w g t cs) (o : Obj) : Bk (w.alloc o) g t cs := h.keep (Below.heap_alloc w o g h.lt)
theorem Bk.set_ (h : Bk w g t cs) (i : Nat) (u : Value) : Bk (w.setCell ⟨g, i, none⟩ u) g t (cs.setIfInBounds i u) := by
  unfold Bk at h ⊢
  simp [World.setCell, Array.getElem?_modify, h]
theorem Bk.far (h : Bk w g t cs) {p : Addr} (hp : g ≠ p.block) (u : Value) : Bk (w.setCell p u) g t cs := h.keep (Below.heap_setCell w p u g hp)
theorem Bk.below (h : Bk w g t cs) (hb : Below B w w') (hg : g < B) : Bk w' g t cs := h.keep (hb.block g hg)
theorem Bk.st (h : Bk w g t cs) (hb : Below w.heap.size w w') : Bk w' g t cs := h.below hb h.lt
theorem Bk.fr (h : Bk w g t cs) (hf : Fr lo hi w w') (hg : g < lo ∨ hi ≤ g) : Bk w' g t cs := h.keep (hf.block g h.lt hg)
end

theorem intInfo : (Tryz.prog.info? 3).map (fun i => (i.zero, i.size, i.bytes)) = some (some (.int .i64 0), 1, 8) := by kernel_rfl

/-! ### results: behind a definition, so that a walk does not take them apart -/
/-- a slice of integers and a bool; the slice reads as L -/
def SpecZB (L : List Int) (b : Bool) (w : World) (e : Ending) (w' : World) : Prop :=
  ∃ A c, e = .returned (.tuple #[.slice A L.length c, .bool b]) ∧ Rd w' 0 w'.heap.size A L ∧ L.length ≤ 1048576 ∧ Below w.heap.size w w'
/-- the same, the slice in memory of its own -/
def ImplZB (L : List Int) (b : Bool) (w : World) (e : Ending) (w' : World) : Prop :=
  ∃ A c, e = .returned (.tuple #[.slice A L.length c, .bool b]) ∧ Own w' w.heap.size w'.heap.size (.slice A L.length c) L ∧ L.length ≤ 1048576 ∧ Below w.heap.size w w'
theorem SpecZB.mk {L : List Int} {b : Bool} {w w' : World} {e : Ending} {A : Option Addr} {n c : Nat} {b' : Bool} {lo hi : Nat} (he : e = .returned (.tuple #[.slice A n c, .bool b'])) (hn : n = L.length) (hb : b' = b) (h : Own w' lo hi (.slice A L.length c) L)
    (hl : L.length ≤ 1048576) (hB : Below w.heap.size w w') : SpecZB L b w e w' := ⟨A, c, by rw [he, hn, hb], h.rd'.std, hl, hB⟩
theorem SpecZB.nil {w w' : World} {e : Ending} {b b' : Bool} (he : e = .returned (.tuple #[.slice none 0 0, .bool b'])) (hb : b' = b) (hB : Below w.heap.size w w') : SpecZB [] b w e w' := ⟨none, 0, by rw [he, hb]; rfl, Rd.nil, by simp, hB⟩
theorem ImplZB.mk {L : List Int} {b : Bool} {w w' : World} {e : Ending} {A : Option Addr} {n c : Nat} {b' : Bool} {lo hi : Nat} (he : e = .returned (.tuple #[.slice A n c, .bool b'])) (hn : n = L.length) (hb : b' = b) (h : Own w' lo hi (.slice A L.length c) L)
    (h1 : w.heap.size ≤ lo) (hl : L.length ≤ 1048576) (hB : Below w.heap.size w w') : ImplZB L b w e w' := ⟨A, c, by rw [he, hn, hb], ⟨(h.mono h1 (Nat.le_refl _)).1, fun k hk => (h.lt k hk).2.2⟩, hl, hB⟩
theorem ImplZB.nil {w w' : World} {e : Ending} {b b' : Bool} (he : e = .returned (.tuple #[.slice none 0 0, .bool b'])) (hb : b' = b) (hB : Below w.heap.size w w') : ImplZB [] b w e w' := ⟨none, 0, by rw [he, hb]; rfl, Own.nil, by simp, hB⟩

/-! ### laws of make and append, on slices of integers -/
theorem run_append_none {P : Program} (w : World) (base : Nat) (t ty e : TypeId) (i : TypeInfo) (size : Nat) (ht : P.underlying t = some (.slice e)) (hi : P.info? e = some i)
    (v : Value) (n : Nat) (xs : List Value) (hown : w.ownsRow base e size v n xs) (c : Nat) : (Builtin.append_ #[t, t] ty #[v, .slice none 0 c]).run P w = .ok v w := by
  rcases hown.2 with ⟨rfl, rfl⟩ | ⟨g, cap, cur, rfl, _, _, hnc, _⟩
  · simp [Builtin.append_, run_underlying ht, sizeOf, typeInfo, hi, Builtin.lenOf, Builtin.firstCells]
  · simp [Builtin.append_, run_underlying ht, sizeOf, typeInfo, hi, Builtin.lenOf, Builtin.firstCells, hnc, storeCells]

section
variable {ops : Array Oper} {rest : List Oper} {o : Oper} {a : Act} {Q : Exit → Act → World → Prop} {w : World} {lo hi : Nat} {v : Value} {xs ys : List Int} {A : Option Addr} {c : Nat}

theorem run_append_ints (ty : TypeId) (hown : Own w lo hi v xs) (hr : Rd w 0 w.heap.size A ys) (hlen : xs.length + ys.length ≤ 1099511627776) (hlo : lo ≤ w.heap.size) :
    ∃ v' w', (Builtin.append_ #[24, 24] ty #[v, .slice A ys.length c]).run Tryz.prog w = .ok v' w' ∧ Own w' lo w'.heap.size v' (xs ++ ys) ∧ w.grownBy w' v.ownBlock ∧ Below lo w w' ∧
      (v'.ownBlock = v.ownBlock ∨ v'.ownBlock = some w.heap.size) := by
  obtain ⟨i0, hi0, hz0, hz1, hz2⟩ := info_parts intInfo
  have hb : ∀ w', w.grownBy w' v.ownBlock → Below lo w w' := fun w' hg => (Below.refl lo w).grown hg hlo (fun k hk => (hown.lt k hk).1)
  rcases A with _ | ad
  · have hm : ys = [] := by
      rcases Nat.eq_zero_or_pos ys.length with h0 | h0
      · exact List.eq_nil_of_length_eq_zero h0
      · obtain ⟨b, off, h, _⟩ := hr h0
        cases h
    subst hm
    exact ⟨v, w, run_append_none w lo _ ty _ i0 1 Tryz.underlying24 hi0 v _ _ hown.1 c, by rw [List.append_nil]; exact ⟨hown.1, fun k hk => (hown.lt k hk).2.2⟩,
      World.grownBy.refl w _, Below.refl _ _, .inl rfl⟩
  · have hcells : ∀ j u, (ys.map (Value.int .i64))[j]? = some u → w.cell? (ad.add j) = some u := by
      intro j u hu
      have hj : j < ys.length := by have := (List.getElem?_eq_some_iff.1 hu).1; simpa using this
      obtain ⟨b, off, h, _, _, hc⟩ := hr (by omega)
      obtain rfl : ad = ⟨b, off, none⟩ := Option.some.inj h
      have hadd : (⟨b, off, none⟩ : Addr).add j = ⟨b, off + j, none⟩ := by unfold Addr.add; split <;> simp_all
      rw [hadd, hc j hj]
      simpa [hj] using hu
    obtain ⟨v', w', hrun, h2, h3, _, h5⟩ := run_append_own_at (P := Tryz.prog) w lo _ ty _ i0 (.int .i64 0) 1 8 Tryz.underlying24 hi0 hz0 hz1 hz2 rfl (by omega) v _ _ hown.1 ad ys.length c _ (by simp) hcells (ints_oneCell _ _)
      (by simp only [maxLen]; omega) (by omega) hlo
    refine ⟨v', w', hrun, Own.of_row ?_ (Nat.le_refl _), h3, hb w' h3, h5⟩
    simpa using h2

theorem wp_append_ints (hgd : o.guard = none) (s x : Operand) (ho : o.op = .call { callee := .builtin .append, args := #[s, x], argTypes := #[24, 24] })
    (hs : a.eval s = v) (hown : Own w lo hi v xs) (hx : a.eval x = .slice A ys.length c) (hr : Rd w 0 w.heap.size A ys) (hlen : xs.length + ys.length ≤ 1099511627776) (hlo : lo ≤ w.heap.size)
    (h : ∀ v' w', Own w' lo w'.heap.size v' (xs ++ ys) → w.grownBy w' v.ownBlock → Below lo w w' → (v'.ownBlock = v.ownBlock ∨ v'.ownBlock = some w.heap.size) → wpList Tryz.prog ops Q rest (a.put o.dst v') w') : wpList Tryz.prog ops Q (o :: rest) a w :=
  wpList_plain hgd fun K hK => by
    obtain ⟨v', w', hrun, h2, h3, h4, h5⟩ := run_append_ints o.type (c := c) hown hr hlen hlo
    unfold Oper.wp execOp
    simp only [ho, resolve, invoke, builtin, Sem.run_bind, Sem.run_pure, Result.andThen_ok, List.map_toArray, List.map_cons, List.map_nil, hs, hx, hrun]
    exact hK _ _ (h v' w' h2 h3 h4 h5)

/-- 'append(out, x)' of one number: it lies in a block of one cell just made -/
theorem Rd.one (w : World) (cs : Array Value) (t : TypeId) (zs : List Int) (hcs : cs.toList = zs.map (Value.int .i64)) : Rd (w.alloc (.cells cs t)) w.heap.size (w.heap.size + 1) (some ⟨w.heap.size, 0, none⟩) zs := fun _ =>
  ⟨_, _, rfl, Nat.le_refl _, by omega, fun j hj => by
    have h := cell_of_row (w.alloc (.cells cs t)) w.heap.size (0 + j) cs t (0, 0) (heap_alloc_new w _)
    rw [h, Nat.zero_add, ← Array.getElem?_toList, hcs]
    simp [hj]⟩

theorem wp_make_ints (hgd : o.guard = none) (l k : Operand) (ho : o.op = Op.makeSlice 24 l k) (n : Nat) (hl : a.eval l = .int .i64 (n : Int)) (hk : a.eval k = .int .i64 (n : Int)) (hn : n ≤ 1099511627776)
    (h : ∀ w', Own w' w.heap.size w'.heap.size (.slice (some ⟨w.heap.size, 0, none⟩) n n) (List.replicate n 0) → Below w.heap.size w w' → w'.heap.size = w.heap.size + 1 → wpList Tryz.prog ops Q rest (a.put o.dst (.slice (some ⟨w.heap.size, 0, none⟩) n n)) w') : wpList Tryz.prog ops Q (o :: rest) a w := by
  obtain ⟨i0, hi0, hz0, hz1, hz2⟩ := info_parts intInfo
  refine wpList_plain hgd fun K hK => ?_
  have hr := run_make (P := Tryz.prog) w _ _ i0 (.int .i64 0) Tryz.underlying24 hi0 hz0 .i64 .i64 n n (by omega) (Int.le_refl _) (by rw [hz2]; omega) (by omega)
  simp only [Int.toNat_natCast, hz1, Nat.mul_one] at hr
  unfold Oper.wp
  simp [execOp, ho, hl, hk, hr, Result.andThen]
  refine hK _ _ (h _ ?_ ((Below.refl _ _).alloc (Nat.le_refl _) _) (by simp))
  have hm := Own.made (lo := w.heap.size) (hi := w.heap.size + 1) w (List.replicate n 0) (madeCells #[.int .i64 0] n) (by rw [toList_madeCells_one]; simp) (by simp [maxLen]; omega) (Nat.le_refl _) (by omega)
  rw [show (Value.int .i64 0).cells = #[Value.int .i64 0] from rfl]
  simpa using hm
end

end Go.Proofs.YtjhbffndiaggmaaGreatDoor

/-
  'append' of numbers at a step of a region that draws its order. The conditions are bounds on lengths.
-/
namespace Go.Proofs.YtjhbffndiaggmaaGreatDoor
open Go.RowKit Go.ChangeShapes Go.WideShapes
set_option linter.unusedVariables false
set_option linter.unusedSimpArgs false

/-- 'append(v, x..)' at a step of a region that draws its order -/
theorem step_append_ints {w : World} {lo hi : Nat} {v : Value} {xs ys : List Int} {A : Option Addr} {c : Nat} {ops : Array Oper} {o : Oper} {a : Act} {K : Act → World → Prop} {Q : Exit → Act → World → Prop} {E : Prop} (hgd : o.guard = none) (s x : Operand)
    (ho : o.op = .call { callee := .builtin .append, args := #[s, x], argTypes := #[24, 24] }) (hs : a.eval s = v) (hown : Own w lo hi v xs) (hx : a.eval x = .slice A ys.length c) (hr : Rd w 0 w.heap.size A ys)
    (hlen : xs.length + ys.length ≤ 1099511627776) (hlo : lo ≤ w.heap.size)
    (h : ∀ v' w', Own w' lo w'.heap.size v' (xs ++ ys) → w.grownBy w' v.ownBlock → Below lo w w' → (v'.ownBlock = v.ownBlock ∨ v'.ownBlock = some w.heap.size) → K (a.put o.dst v') w') :
    if Region.wanted o (yielded ops a.tmps) = true then Oper.wp Tryz.prog o a w K Q else E := by
  have hw : Region.wanted o (yielded ops a.tmps) = true := by simp [Region.wanted, hgd]
  rw [if_pos hw]
  obtain ⟨v', w', hrun, h2, h3, h4, h5⟩ := run_append_ints o.type (c := c) hown hr hlen hlo
  unfold Oper.wp execOp
  simp only [ho, resolve, invoke, builtin, Sem.run_bind, Sem.run_pure, Result.andThen_ok, List.map_toArray, List.map_cons, List.map_nil, hs, hx, hrun]
  exact h v' w' h2 h3 h4 h5
end Go.Proofs.YtjhbffndiaggmaaGreatDoor
