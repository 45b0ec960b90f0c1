/-
  Contracts and plain laws that the walk uses, several texts in one. The conditions are named ahead of each.
-/
import Derived.Test.YtjhbffndiaggmaaDoorB14
import Derived.Deep.RegionHeld3
import Derived.Test.YtjhbffndiaggmaaDoorB13

/-
  Contracts on slices of log entries: the statements' helpers (size, copy, equality) and the search for an entry. The conditions are bounds on lengths.
-/
namespace Go.Proofs.YtjhbffndiaggmaaDoor
open Go.RowKit Go.ChangeShapes Go.WideShapes
set_option linter.unusedVariables false

theorem OwnE.at_ {w : World} {lo hi g n c k : Nat} {es : List Ent} (h : OwnE w lo hi (.slice (some ⟨g, 0, none⟩) n c) es) (hk : k < es.length) : lo ≤ g ∧ g < hi ∧ g < w.heap.size ∧
    (∃ x0, w.cell? ⟨g, k * 5, none⟩ = some x0) ∧ (∃ x1, w.cell? ⟨g, k * 5 + 1, none⟩ = some x1) ∧ (∃ x2, w.cell? ⟨g, k * 5 + 2, none⟩ = some x2) ∧ (∃ x3, w.cell? ⟨g, k * 5 + 3, none⟩ = some x3) ∧ (∃ x4, w.cell? ⟨g, k * 5 + 4, none⟩ = some x4) ∧ ∀ j, w.frozen? ⟨g, j, none⟩ = false := by
  rcases h with ⟨h, _⟩ | ⟨g', cap, cur, U, V, e0, a1, a2, hg, c1, c2, c3, hj, hdj⟩
  · cases h
  · injection e0 with e1 e2 e3
    injection e1 with e1
    injection e1 with e1
    subst e1
    obtain ⟨⟨x0, x1, x2, x3, x4⟩, _⟩ := hj k hk
    have hc : ∀ i, w.cell? ⟨g, i, none⟩ = cur[i]? := fun i => cell_of_row w g i cur _ _ hg
    exact ⟨a1, a2, (Array.getElem?_eq_some_iff.1 hg).1, ⟨_, (hc _).trans x0⟩, ⟨_, (hc _).trans x1⟩, ⟨_, (hc _).trans x2⟩, ⟨_, (hc _).trans x3⟩, ⟨_, (hc _).trans x4⟩, fun j => by simp [World.frozen?, hg]⟩

/-- the first entry of a part -/
def findI (es : List Ent) (m p : Int) : Int := match es.findIdx? (fun e => e.msg == m && e.part == p) with | some k => (k : Int) | none => -1
def isE (e : Ent) (m p : Int) : Bool := e.msg == m && e.part == p
theorem findI_at {es : List Ent} {m p : Int} {k : Nat} (h : k < es.length) (h1 : isE es[k] m p = true) (h2 : ∀ j (h3 : j < es.length), j < k → isE es[j] m p = false) : findI es m p = (k : Int) := by
  have : es.findIdx? (fun e => e.msg == m && e.part == p) = some k := by
    rw [List.findIdx?_eq_some_iff_getElem]
    exact ⟨h, h1, fun j hj => by have := h2 j (by omega) hj; unfold isE at this; rw [this]; simp⟩
  simp [findI, this]
theorem findI_no {es : List Ent} {m p : Int} (h : ∀ k (_ : k < es.length), isE es[k] m p = false) : findI es m p = -1 := by
  have : es.findIdx? (fun e => e.msg == m && e.part == p) = none := by
    rw [List.findIdx?_eq_none_iff]
    intro x hx
    obtain ⟨k, hk, e⟩ := List.getElem_of_mem hx
    have := h k hk
    unfold isE at this
    rw [← e]; exact this
  simp [findI, this]
theorem findI_cases (es : List Ent) (m p : Int) : (∃ k, ∃ h : k < es.length, findI es m p = (k : Int) ∧ isE es[k] m p = true ∧ ∀ j (h3 : j < es.length), j < k → isE es[j] m p = false) ∨ (findI es m p = -1 ∧ ∀ k (_ : k < es.length), isE es[k] m p = false) := by
  cases hf : es.findIdx? (fun e => e.msg == m && e.part == p) with
  | some k =>
    left
    have hf2 := hf
    rw [List.findIdx?_eq_some_iff_getElem] at hf
    obtain ⟨h, h1, h2⟩ := hf
    exact ⟨k, h, by simp [findI, hf2], h1, fun j hj hjk => by have := h2 j hjk; unfold isE; simpa using this⟩
  | none =>
    right
    refine ⟨by simp [findI, hf], fun k hk => ?_⟩
    rw [List.findIdx?_eq_none_iff] at hf
    exact hf _ (List.getElem_mem hk)
theorem findI_range (es : List Ent) (m p : Int) : -1 ≤ findI es m p ∧ findI es m p < es.length + 1 := by
  rcases findI_cases es m p with ⟨k, h, e, _⟩ | ⟨e, _⟩ <;> rw [e] <;> omega
set_option maxHeartbeats 1000000 in
theorem lgFind_any (es : List Ent) (A : Option Addr) (c : Nat) (m p : Int) {l h : Nat} (w : World) (hr0 : RdE w l h A es) (hl : es.length ≤ 1048576) :
    Calls Tryd.prog 45 #[.slice A es.length c, .int .i64 m, .int .i64 p] w fun e w' => e = .returned (.int .i64 (findI es m p)) ∧ Below w.heap.size w w' := by
  have hr := hr0.std
  clear hr0
  go_enter Tryd.func45, Tryd.ntmps45
  go_wp2
  go_loopw [7, 8, 11] (fun _ _ i wr => ∃ k : Nat, k ≤ es.length ∧ i = .int .i64 k ∧ (∀ j (h : j < es.length), j < k → isE es[j] m p = false) ∧ Below w.heap.size w wr) (fun _ _ i _ => es.length - (intOf i).toNat)
  case atStart => exact ⟨0, Nat.zero_le _, rfl, fun j _ h => absurd h (by omega), Below.refl _ _⟩
  case round =>
    obtain ⟨k, hk, rfl, hall, hbr⟩ := hrel
    have hallH := Lib.hid hall
    clear hall
    by_cases hlt : k < es.length
    · obtain ⟨b, off, rfl, _, _, hc⟩ := (hr.below hbr (Nat.le_refl _)) (by omega)
      obtain ⟨A1, c1, A2, c2, x0, x1, x2, x3, x4, r1, r2⟩ := hc k hlt
      have hb2 : ∀ o : Obj, Below w.heap.size w (wr.alloc o) := fun o => hbr.alloc hbr.size o
      clear hc
      have hdef : Hid (isE es[k] m p = (es[k].msg == m && es[k].part == p)) := Lib.hid rfl
      cases e1 : (es[k].msg == m) with
      | false =>
        have hq := Lib.hid (show isE es[k] m p = false by rw [hdef.out, e1]; rfl)
        go_wp2
        go_roundw
        case rel => exact ⟨k + 1, by omega, by go_num, fun j h1 h2 => by
          by_cases hj : j = k
          · subst hj; exact hq.out
          · exact hallH.out j h1 (by omega), hb2 _⟩
        case measure => simp [intOf]; omega
      | true =>
        cases e2 : (es[k].part == p) with
        | false =>
          have hq := Lib.hid (show isE es[k] m p = false by rw [hdef.out, e1, e2]; rfl)
          go_wp2
          go_roundw
          case rel => exact ⟨k + 1, by omega, by go_num, fun j h1 h2 => by
            by_cases hj : j = k
            · subst hj; exact hq.out
            · exact hallH.out j h1 (by omega), hb2 _⟩
          case measure => simp [intOf]; omega
        | true =>
          have hq := Lib.hid (findI_at hlt (show isE es[k] m p = true by rw [hdef.out, e1, e2]; rfl) hallH.out)
          go_wp2
          go_ret
          exact ⟨by rw [hq.out]; rfl, hb2 _⟩
    · have hq := Lib.hid (findI_no (es := es) (m := m) (p := p) fun j h1 => hallH.out j h1 (by omega))
      go_wp2
      go_ret
      exact ⟨by rw [hq.out]; rfl, hbr⟩
end Go.Proofs.YtjhbffndiaggmaaDoor

/-
  Words for memory: slices of logs (slices of slices of entries), read and made. No statement of the program stands here.
-/
namespace Go.Proofs.YtjhbffndiaggmaaDoor
open Go.RowKit
set_option linter.unusedVariables false
set_option linter.unusedSimpArgs false

/-- the slice value with address A reads as the logs xss -/
def RdEE (w : World) (lo hi : Nat) (A : Option Addr) (xss : List (List Ent)) : Prop :=
  0 < xss.length → ∃ b off, A = some ⟨b, off, none⟩ ∧ lo ≤ b ∧ b < hi ∧ ∀ j (hj : j < xss.length), ∃ A1 c1, w.cell? ⟨b, off + j, none⟩ = some (.slice A1 xss[j].length c1) ∧ RdE w lo hi A1 xss[j] ∧ xss[j].length ≤ c1

section
variable {w w' : World} {lo hi lo' hi' B : Nat} {A : Option Addr} {es : List (List Ent)}
theorem RdEE.nil : RdEE w lo hi A [] := fun h => absurd h (by simp)
theorem RdEE.mono (h : RdEE w lo hi A es) (h1 : lo' ≤ lo) (h2 : hi ≤ hi') : RdEE w lo' hi' A es := fun hp => by
  obtain ⟨b, off, e, a1, a2, hc⟩ := h hp
  refine ⟨b, off, e, by omega, by omega, fun j hj => ?_⟩
  obtain ⟨A1, c1, x, r, hcap⟩ := hc j hj
  exact ⟨A1, c1, x, r.mono h1 h2, hcap⟩
theorem RdEE.std (h : RdEE w lo hi A es) : RdEE w 0 w.heap.size A es := fun hp => by
  obtain ⟨b, off, e, _, _, hc⟩ := h hp
  refine ⟨b, off, e, Nat.zero_le _, ?_, fun j hj => ?_⟩
  · obtain ⟨A1, c1, x, r⟩ := hc 0 hp
    exact World.block_lt_of_cell? w _ x
  · obtain ⟨A1, c1, x, r, hcap⟩ := hc j hj
    exact ⟨A1, c1, x, r.std, hcap⟩
theorem RdEE.keep (h : RdEE w lo hi A es) (hk : ∀ b o, lo ≤ b → b < hi → b < w.heap.size → w'.cell? ⟨b, o, none⟩ = w.cell? ⟨b, o, none⟩) : RdEE w' lo hi A es := fun hp => by
  obtain ⟨b, off, e, a1, a2, hc⟩ := h hp
  refine ⟨b, off, e, a1, a2, fun j hj => ?_⟩
  obtain ⟨A1, c1, x, r, hcap⟩ := hc j hj
  exact ⟨A1, c1, (hk _ _ a1 a2 (World.block_lt_of_cell? w _ x)).trans x, r.keep hk, hcap⟩
theorem RdEE.below (h : RdEE w lo hi A es) (hb : Below B w w') (hB : hi ≤ B) : RdEE w' lo hi A es := h.keep fun b o _ h2 _ => hb.cell (p := ⟨b, o, none⟩) (by show b < B; omega)
theorem RdEE.st (h : RdEE w lo hi A es) (hb : Below w.heap.size w w') : RdEE w' lo hi A es := h.keep fun b o _ _ h3 => hb.cell (p := ⟨b, o, none⟩) h3
theorem RdEE.fr (h : RdEE w lo hi A es) (hf : Fr lo' hi' w w') (hd : hi ≤ lo' ∨ hi' ≤ lo) : RdEE w' lo hi A es :=
  h.keep fun b o h1 h2 h3 => World.cell?_of_block (w := w) (hf.block b h3 (by omega))
theorem RdEE.drew (h : RdEE w lo hi A es) : RdEE w.drew lo hi A es := h
theorem RdEE.drewN (h : RdEE w lo hi A es) (k : Nat) : RdEE (w.drewN k) lo hi A es := h
theorem RdEE.alloc (h : RdEE w lo hi A es) (o : Obj) : RdEE (w.alloc o) lo hi A es := h.keep fun b o' _ _ h3 => World.cell?_alloc_lt w o _ (by exact h3)
end

theorem OwnE.cap' {w : World} {lo hi n c : Nat} {A : Option Addr} {es : List Ent} (h : OwnE w lo hi (.slice A n c) es) : es.length ≤ c := by
  rcases h with ⟨e, rfl⟩ | ⟨g, cap, cur, U, V, e, _, _, _, c1, _⟩
  · simp
  · injection e with e1 e2 e3
    omega

/-- the first k of n logs have been made and lie in block g; the others are nil. The logs lie apart: log j in blocks from P j on and below P (j + 1). -/
def MadeEE (w : World) (lo hi g n : Nat) (es : List (List Ent)) (k : Nat) : Prop :=
  ∃ (cur : Array Value) (U : Nat → Value) (P : Nat → Nat), w.heap[g]? = some (.cells cur 35 (0, 0)) ∧ lo ≤ g ∧ g < P 0 ∧ P k ≤ hi ∧ cur.size = n ∧ (∀ j, j < k → P j ≤ P (j + 1)) ∧
    (∀ j (hj : j < es.length), j < k → cur[j]? = some (U j) ∧ OwnE w (P j) (P (j + 1)) (U j) es[j]) ∧ ∀ j, k ≤ j → j < n → cur[j]? = some (.slice none 0 0)

/-- the slice value v has been made by a call: a block of its own that holds logs of its own, that lie apart -/
def OwnEE (w : World) (lo hi : Nat) (v : Value) (es : List (List Ent)) : Prop :=
  ∃ g cap, v = .slice (some ⟨g, 0, none⟩) es.length cap ∧ es.length ≤ cap ∧ cap ≤ maxLen ∧ MadeEE w lo hi g cap es es.length

theorem mono_up {P : Nat → Nat} {k : Nat} (h : ∀ j, j < k → P j ≤ P (j + 1)) : ∀ i j, i ≤ j → j ≤ k → P i ≤ P j := by
  intro i j hij hjk
  induction j with
  | zero => obtain rfl : i = 0 := by omega
            exact Nat.le_refl _
  | succ j ih =>
    by_cases e : i = j + 1
    · subst e; exact Nat.le_refl _
    · exact Nat.le_trans (ih (by omega) (by omega)) (h j (by omega))

section
variable {w w' : World} {lo hi lo' hi' B g n k : Nat} {v : Value} {es : List (List Ent)}
theorem MadeEE.keep (h : MadeEE w lo hi g n es k) (hk : ∀ b, lo ≤ b → b < hi → b < w.heap.size → w'.heap[b]? = w.heap[b]?) (hke : k ≤ es.length) : MadeEE w' lo hi g n es k := by
  obtain ⟨cur, U, P, hg, a1, a2, a3, hs, hm, hj, hr⟩ := h
  have up := mono_up hm
  have h0 := up 0 k (by omega) (Nat.le_refl _)
  refine ⟨cur, U, P, (hk g a1 (by omega) (Array.getElem?_eq_some_iff.1 hg).1).trans hg, a1, a2, a3, hs, hm, fun j h h' => ⟨(hj j h h').1, (hj j h h').2.keep fun b b1 b2 b3 => ?_⟩, hr⟩
  have := up 0 j (by omega) (by omega)
  have := up (j + 1) k (by omega) (Nat.le_refl _)
  exact hk b (by omega) (by omega) b3
theorem MadeEE.st (h : MadeEE w lo hi g n es k) (hb : Below w.heap.size w w') (hke : k ≤ es.length) : MadeEE w' lo hi g n es k := h.keep (fun b _ _ h3 => hb.block b h3) hke
theorem MadeEE.mono (h : MadeEE w lo hi g n es k) (h1 : lo' ≤ lo) (h2 : hi ≤ hi') : MadeEE w lo' hi' g n es k := by
  obtain ⟨cur, U, P, hg, a1, a2, a3, hs, hm, hj, hr⟩ := h
  exact ⟨cur, U, P, hg, by omega, a2, by omega, hs, hm, hj, hr⟩
theorem MadeEE.at_ (h : MadeEE w lo hi g n es k) (j : Nat) (hj : j < n) (hke : k ≤ es.length) (hl : j < k ∨ k ≤ j) : g < w.heap.size ∧ (∃ x, w.cell? ⟨g, j, none⟩ = some x) ∧ w.frozen? ⟨g, j, none⟩ = false := by
  obtain ⟨cur, U, P, hg, a1, a2, a3, hs, hm, hj', hr⟩ := h
  have hc : ∀ i, w.cell? ⟨g, i, none⟩ = cur[i]? := fun i => cell_of_row w g i cur _ _ hg
  refine ⟨(Array.getElem?_eq_some_iff.1 hg).1, ⟨cur[j]'(by omega), (hc j).trans (by simp [hs, hj])⟩, by simp [World.frozen?, hg]⟩
/-- a log just made is stored at place k -/
theorem MadeEE.stored (h : MadeEE w lo hi g n es k) (hk : k < es.length) (hn : es.length = n) {hi2 : Nat} {u : Value} (hu : OwnE w hi hi2 u es[k]) (hh : hi ≤ hi2) : MadeEE (w.setCell ⟨g, k, none⟩ u) lo hi2 g n es (k + 1) := by
  obtain ⟨cur, U, P, hg, a1, a2, a3, hs, hm, hj, hr⟩ := h
  have up := mono_up hm
  have h0k := up 0 k (by omega) (Nat.le_refl _)
  have hset : ∀ b, b ≠ g → (w.setCell ⟨g, k, none⟩ u).heap[b]? = w.heap[b]? := fun b hb => Below.heap_setCell w ⟨g, k, none⟩ u b hb
  refine ⟨cur.setIfInBounds k u, fun j => if j = k then u else U j, fun j => if j ≤ k then P j else hi2, (show Bk w g _ cur from hg).set_ k u, a1, by simpa using a2, by dsimp only; rw [if_neg (by omega)]; exact Nat.le_refl _, by simpa using hs, ?_, ?_, ?_⟩
  · intro j hjk
    dsimp only
    by_cases e : j + 1 ≤ k
    · rw [if_pos (by omega), if_pos e]; exact hm j (by omega)
    · rw [if_pos (by omega), if_neg e]
      have := up j k (by omega) (Nat.le_refl _)
      omega
  · intro j hjl hjk
    dsimp only
    by_cases e : j = k
    · subst e
      rw [if_pos rfl, if_pos (Nat.le_refl _), if_neg (by omega)]
      refine ⟨?_, (hu.mono a3 (Nat.le_refl _)).keep fun b b1 b2 b3 => hset b (by omega)⟩
      rw [Array.getElem?_setIfInBounds_self, if_pos (by omega)]
    · rw [if_neg e, if_pos (by omega), if_pos (by omega)]
      obtain ⟨x, y⟩ := hj j hjl (by omega)
      have := up 0 j (by omega) (by omega)
      exact ⟨by rw [Array.getElem?_setIfInBounds_ne (by omega)]; exact x, y.keep fun b b1 b2 b3 => hset b (by omega)⟩
  · intro j hjk hjn
    rw [Array.getElem?_setIfInBounds_ne (by omega)]
    exact hr j (by omega) hjn
theorem OwnEE.keep (h : OwnEE w lo hi v es) (hk : ∀ b, lo ≤ b → b < hi → b < w.heap.size → w'.heap[b]? = w.heap[b]?) : OwnEE w' lo hi v es := by
  obtain ⟨g, cap, e, c1, c2, hm⟩ := h
  exact ⟨g, cap, e, c1, c2, hm.keep hk (Nat.le_refl _)⟩
theorem OwnEE.mono (h : OwnEE w lo hi v es) (h1 : lo' ≤ lo) (h2 : hi ≤ hi') : OwnEE w lo' hi' v es := by
  obtain ⟨g, cap, e, c1, c2, hm⟩ := h
  exact ⟨g, cap, e, c1, c2, hm.mono h1 h2⟩
theorem OwnEE.st (h : OwnEE w lo hi v es) (hb : Below w.heap.size w w') : OwnEE w' lo hi v es := h.keep fun k _ _ h3 => hb.block k h3
theorem OwnEE.below (h : OwnEE w lo hi v es) (hb : Below B w w') (hB : hi ≤ B ∨ w.heap.size ≤ B) : OwnEE w' lo hi v es := h.keep fun k _ h2 h3 => hb.block k (by omega)
theorem OwnEE.fr (h : OwnEE w lo hi v es) (hf : Fr lo' hi' w w') (hd : hi ≤ lo' ∨ hi' ≤ lo) : OwnEE w' lo hi v es := h.keep fun k h1 h2 h3 => hf.block k h3 (by omega)
theorem OwnEE.drew (h : OwnEE w lo hi v es) : OwnEE w.drew lo hi v es := h
theorem OwnEE.drewN (h : OwnEE w lo hi v es) (k : Nat) : OwnEE (w.drewN k) lo hi v es := h
theorem OwnEE.alloc (h : OwnEE w lo hi v es) (o : Obj) : OwnEE (w.alloc o) lo hi v es := h.keep fun k _ _ h3 => Below.heap_alloc w o k h3
theorem OwnEE.rd (h : OwnEE w lo hi v es) : ∃ A c, v = .slice A es.length c ∧ RdEE w lo hi A es ∧ c ≤ maxLen := by
  obtain ⟨g, cap, rfl, c1, c2, cur, U, P, hg, a1, a2, a3, hs, hm, hj, hr⟩ := h
  have up := mono_up hm
  have h0 := up 0 es.length (by omega) (Nat.le_refl _)
  refine ⟨_, cap, rfl, fun hp => ⟨g, 0, rfl, a1, by omega, fun j h => ?_⟩, c2⟩
  obtain ⟨x, y⟩ := hj j h h
  obtain ⟨A1, d1, e1, r1, _⟩ := y.rd
  have hcap : es[j].length ≤ d1 := by rw [e1] at y; exact y.cap'
  have q1 := up 0 j (by omega) (by omega)
  have q2 := up (j + 1) es.length (by omega) (Nat.le_refl _)
  have hc : ∀ i, w.cell? ⟨g, i, none⟩ = cur[i]? := fun i => cell_of_row w g i cur _ _ hg
  rw [Nat.zero_add]
  exact ⟨A1, d1, (hc _).trans (x.trans (by rw [e1])), r1.mono (by omega) (by omega), hcap⟩
theorem OwnEE.rd' {A : Option Addr} {n c : Nat} (h : OwnEE w lo hi (.slice A n c) es) : RdEE w lo hi A es := by
  obtain ⟨A', c', he, hr, _⟩ := h.rd
  injection he with h1 h2 h3
  subst h1
  exact hr
end

def esszL (es : List (List Ent)) : Nat := es.length + (es.map eszL).sum
def ppsum (es : List (List Ent)) (k : Nat) : Nat := ((es.take k).map eszL).sum
theorem ppsum_zero (es : List (List Ent)) : ppsum es 0 = 0 := by simp [ppsum]
theorem ppsum_succ (es : List (List Ent)) (k : Nat) (h : k < es.length) : ppsum es (k + 1) = ppsum es k + eszL es[k] := by
  unfold ppsum; rw [List.take_succ_eq_append_getElem h, List.map_append, List.sum_append]; simp
theorem ppsum_all (es : List (List Ent)) : ppsum es es.length = (es.map eszL).sum := by simp [ppsum]
theorem ppsum_le (es : List (List Ent)) (k : Nat) : ppsum es k ≤ ppsum es es.length := by
  unfold ppsum
  rw [List.take_length]
  conv => rhs; rw [← List.take_append_drop k es]
  rw [List.map_append, List.sum_append]
  omega
theorem essz_eq (es : List (List Ent)) : esszL es = es.length + ppsum es es.length := by rw [ppsum_all]; rfl
theorem essz_len (es : List (List Ent)) : es.length ≤ esszL es := by unfold esszL; omega
theorem essz_at (es : List (List Ent)) (k : Nat) (h : k < es.length) : eszL es[k] ≤ esszL es := by
  have := ppsum_succ es k h; have := ppsum_le es (k + 1); have := essz_eq es; omega

theorem logsTI : (Tryd.prog.info? 35).map (fun i => (i.zero, i.size, i.bytes)) = some (some (.slice none 0 0), 1, 24) := by kernel_rfl

section
variable {ops : Array Oper} {rest : List Oper} {o : Oper} {a : Act} {Q : Exit → Act → World → Prop} {w : World}
theorem wp_make_logs (hgd : o.guard = none) (l k : Operand) (ho : o.op = Op.makeSlice 23 l k) (es : List (List Ent)) (hl : a.eval l = .int .i64 (es.length : Int)) (hk : a.eval k = .int .i64 (es.length : Int)) (hn : es.length ≤ 1099511627776)
    (h : ∀ w', MadeEE w' w.heap.size w'.heap.size w.heap.size es.length es 0 → Below w.heap.size w w' → w'.heap.size = w.heap.size + 1 → wpList Tryd.prog ops Q rest (a.put o.dst (.slice (some ⟨w.heap.size, 0, none⟩) es.length es.length)) w') : wpList Tryd.prog ops Q (o :: rest) a w := by
  obtain ⟨i0, hi0, hz0, hz1, hz2⟩ := info_parts logsTI
  refine wpList_plain hgd fun K hK => ?_
  have hr := run_make (P := Tryd.prog) w _ _ i0 _ Tryd.underlying23 hi0 hz0 .i64 .i64 es.length es.length (by omega) (Int.le_refl _) (by rw [hz2]; omega) (by omega)
  simp only [Int.toNat_natCast, hz1] at hr
  unfold Oper.wp
  simp [execOp, ho, hl, hk, hr, Result.andThen]
  refine hK _ _ (h _ ?_ ((Below.refl _ _).alloc (Nat.le_refl _) _) (by simp))
  refine ⟨_, fun _ => undef, fun _ => w.heap.size + 1, heap_alloc_new w _, Nat.le_refl _, Nat.lt_succ_self _, by simp, by rw [size_madeCells], fun j hj => absurd hj (by omega), fun j _ hj => absurd hj (by omega), fun j _ hj => ?_⟩
  simp [madeCells, hj, Value.cells, Nat.mod_one]
end

end Go.Proofs.YtjhbffndiaggmaaDoor

/-
  Words for memory: a slice of logs that a call has made, log by log; a log put behind it. No statement of the program stands here.
-/
namespace Go.Proofs.YtjhbffndiaggmaaDoor
open Go.RowKit Go.ChangeShapes Go.WideShapes
set_option linter.unusedVariables false
set_option linter.unusedSimpArgs false

/-- the slice value v has been made by a call: it holds the logs es; all its memory lies from lo on; the block of v itself is none of its logs' -/
def OwnLL (w : World) (lo : Nat) (v : Value) (es : List (List Ent)) : Prop :=
  ∃ x rows, OwnR w lo w.heap.size 35 1 v rows ∧ v.ownBlock = some x ∧ rows.length = es.length ∧
    ∀ j (hj : j < es.length) (hj' : j < rows.length), ∃ A1 c1 l h, rows[j] = [.slice A1 es[j].length c1] ∧ RdE w l h A1 es[j] ∧ es[j].length ≤ c1 ∧ lo ≤ l ∧ h ≤ w.heap.size ∧ (x < l ∨ h ≤ x)
section
variable {w w' : World} {lo lo' hi hi' B : Nat} {v : Value} {es : List (List Ent)} {e : List Ent}
theorem OwnLL.keep (h : OwnLL w lo v es) (hs : w.heap.size ≤ w'.heap.size) (hk : ∀ k, lo ≤ k → k < w.heap.size → w'.heap[k]? = w.heap[k]?) : OwnLL w' lo v es := by
  obtain ⟨x, rows, h1, h2, h3, h4⟩ := h
  refine ⟨x, rows, (h1.keep fun k _ a _ b => hk k a b).mono (Nat.le_refl _) hs, h2, h3, fun j a b => ?_⟩
  obtain ⟨A1, c1, l, h, e1, e2, e3, e4, e5, e6⟩ := h4 j a b
  exact ⟨A1, c1, l, h, e1, e2.keep fun b o a1 a2 a3 => World.cell?_of_block (w := w) (hk b (by omega) a3), e3, e4, by omega, e6⟩
theorem OwnLL.st (h : OwnLL w lo v es) (hb : Below w.heap.size w w') : OwnLL w' lo v es := h.keep hb.size fun k _ a => hb.block k a
theorem OwnLL.fr (h : OwnLL w lo v es) (hf : Fr lo' hi' w w') (hd : hi' ≤ lo) : OwnLL w' lo v es := h.keep hf.size fun k a b => hf.block k b (by omega)
theorem OwnLL.alloc (h : OwnLL w lo v es) (o : Obj) : OwnLL (w.alloc o) lo v es := h.keep (by simp) fun k _ a => Below.heap_alloc w o k a
theorem OwnLL.drew (h : OwnLL w lo v es) : OwnLL w.drew lo v es := h
theorem OwnLL.mono (h : OwnLL w lo v es) (hl : lo' ≤ lo) : OwnLL w lo' v es := by
  obtain ⟨x, rows, h1, h2, h3, h4⟩ := h
  refine ⟨x, rows, h1.mono hl (Nat.le_refl _), h2, h3, fun j a b => ?_⟩
  obtain ⟨A1, c1, l, h, e1, e2, e3, e4, e5, e6⟩ := h4 j a b
  exact ⟨A1, c1, l, h, e1, e2, e3, by omega, e5, e6⟩
theorem OwnLL.form (h : OwnLL w lo v es) : ∃ D c, v = .slice D es.length c := by
  obtain ⟨x, rows, h1, h2, h3, h4⟩ := h
  obtain ⟨D, c, e, _⟩ := h1.cells
  exact ⟨D, c, by rw [e, h3]⟩
/-- it reads as the logs -/
theorem OwnLL.rd {A : Option Addr} {n c : Nat} (h : OwnLL w lo (.slice A n c) es) : RdEE w lo w.heap.size A es ∧ n = es.length ∧ n ≤ c := by
  obtain ⟨x, rows, h1, h2, h3, h4⟩ := h
  obtain ⟨A', c', he, hc1, hc2, hn, hx⟩ := h1.cells
  injection he with e1 e2 e3
  subst e1 e2 e3
  refine ⟨fun hp => ?_, h3, hc1⟩
  obtain ⟨g, rfl, g1, g2, g3, _, hc⟩ := hx (by omega)
  refine ⟨g, 0, rfl, g1, g2, fun j hj => ?_⟩
  obtain ⟨A1, c1, l, h, e1, e2, e3, e4, e5, e6⟩ := h4 j hj (by omega)
  refine ⟨A1, c1, ?_, e2.mono e4 e5, e3⟩
  have := hc j (by omega) 0 (by omega)
  rw [e1] at this
  simpa using this
/-- its last log -/
theorem OwnLL.last {A : Option Addr} {n c : Nat} (h : OwnLL w lo (.slice A n c) es) (hn : 0 < n) : ∃ g A1 c1 l h, A = some ⟨g, 0, none⟩ ∧ w.cell? ⟨g, n - 1, none⟩ = some (.slice A1 (es[n - 1]?.getD []).length c1) ∧ RdE w l h A1 (es[n - 1]?.getD []) ∧ (es[n - 1]?.getD []).length ≤ c1 ∧ lo ≤ l ∧ h ≤ w.heap.size := by
  obtain ⟨x, rows, h1, h2, h3, h4⟩ := h
  obtain ⟨A', c', he, hc1, hc2, _, hx⟩ := h1.cells
  injection he with e1 e2 e3
  subst e1 e2 e3
  obtain ⟨g, rfl, g1, g2, g3, _, hc⟩ := hx hn
  obtain ⟨A1, c1, l, h, e1, e2, e3, e4, e5, e6⟩ := h4 (rows.length - 1) (by omega) (by omega)
  have hlt : rows.length - 1 < es.length := by omega
  rw [List.getElem?_eq_getElem hlt, Option.getD_some]
  refine ⟨g, A1, c1, l, h, rfl, ?_, e2, e3, e4, e5⟩
  have := hc (rows.length - 1) (by omega) 0 (by omega)
  rw [e1] at this
  simpa using this
/-- a slice literal of one log -/
theorem OwnLL.one {A1 : Option Addr} {c1 l h : Nat} (w : World) (hr : RdE w l h A1 e) (hc : e.length ≤ c1) (hl : lo ≤ l) (hh : h ≤ w.heap.size) (hlo : lo ≤ w.heap.size) : OwnLL (w.alloc (.cells #[.slice A1 e.length c1] 35)) lo (.slice (some ⟨w.heap.size, 0, none⟩) 1 1) [e] := by
  refine ⟨w.heap.size, [[.slice A1 e.length c1]], (OwnR.one (hi := w.heap.size + 1) w _ #[.slice A1 e.length c1] hlo (by omega) rfl).mono (Nat.le_refl _) (by simp), rfl, rfl, fun j a b => ?_⟩
  obtain rfl : j = 0 := by simpa using a
  exact ⟨A1, c1, l, h, rfl, hr.alloc _, hc, hl, by simp; omega, .inr hh⟩
end
section
variable {ops : Array Oper} {rest : List Oper} {o : Oper} {a : Act} {Q : Exit → Act → World → Prop} {w : World} {lo : Nat} {v : Value} {es : List (List Ent)}
/-- 'append(logs, l)' -/
theorem wp_append_log (hgd : o.guard = none) (s x : Operand) {e : List Ent} {A1 : Option Addr} {c1 l h g cc : Nat} (ho : o.op = .call { callee := .builtin .append, args := #[s, x], argTypes := #[23, 23] })
    (hs : a.eval s = v) (hown : OwnLL w lo v es) (hx : a.eval x = .slice (some ⟨g, 0, none⟩) 1 cc) (hb : w.cell? ⟨g, 0, none⟩ = some (.slice A1 e.length c1)) (hr : RdE w l h A1 e) (hc : e.length ≤ c1) (hl : lo ≤ l) (hh : h ≤ w.heap.size)
    (hnew : ∀ k, v.ownBlock = some k → k < l) (hlen : es.length ≤ 1000000) (hlo : lo ≤ w.heap.size)
    (hK : ∀ v' w', OwnLL w' lo v' (es ++ [e]) → Below lo w w' → wpList Tryd.prog ops Q rest (a.put o.dst v') w') : wpList Tryd.prog ops Q (o :: rest) a w := by
  obtain ⟨y, rows, h1, h2, h3, h4⟩ := hown
  refine wp_append_rows (news := [[.slice A1 e.length c1]]) (lo := lo) hgd s x ho Tryd.underlying23 logsTI rfl (by omega) hs h1 hx (fun j hj i hi' => ?_) (by simp) (by intro r hr u hu; simp at hr; subst hr; simp at hu; subst hu; rfl) (by simp; omega) (by omega) hlo ?_
  · obtain rfl : j = 0 := by simpa using hj
    obtain rfl : i = 0 := by omega
    simpa using hb
  · intro v' w' ho' hg hb' hat
    refine hK v' w' ?_ hb'
    have hyl := hnew y h2
    have hsz : w.heap.size ≤ w'.heap.size := hg.size
    have hys : y < w.heap.size := (h1.lt y h2).2.2
    obtain ⟨y', hy', hyy⟩ : ∃ y', v'.ownBlock = some y' ∧ (y' = y ∨ y' = w.heap.size) := by
      rcases hat with hat | hat
      · exact ⟨y, hat.trans h2, .inl rfl⟩
      · exact ⟨_, hat, .inr rfl⟩
    refine ⟨y', rows ++ [[.slice A1 e.length c1]], ho', hy', by simp [h3], fun j a b => ?_⟩
    have kp : ∀ {A : Option Addr} {l h : Nat} {f : List Ent}, RdE w l h A f → h ≤ w.heap.size → (y < l ∨ h ≤ y) → RdE w' l h A f := fun hrd hh' hd =>
      hrd.keep fun b o a1 a2 a3 => World.cell?_of_block (w := w) (hg.block b a3 (fun ee => by rw [h2] at ee; injection ee with ee; omega))
    rw [List.getElem_append]
    by_cases hj : j < es.length
    · rw [List.getElem_append, dif_pos (by omega), dif_pos hj]
      obtain ⟨A2, c2, l2, h2', e1, e2, e3, e4, e5, e6⟩ := h4 j hj (by omega)
      exact ⟨A2, c2, l2, h2', e1, kp e2 e5 e6, e3, e4, by omega, by omega⟩
    · rw [List.getElem_append, dif_neg (by omega), dif_neg hj]
      simp only [List.getElem_singleton]
      exact ⟨A1, c1, l, h, rfl, kp hr hh (by omega), hc, hl, by omega, by omega⟩
end
/-- the walk stands here -/
def Halt (p : Prop) : Prop := p
theorem halt {p : Prop} (h : Halt p) : p := h
theorem Halt.in {p : Prop} (h : p) : Halt p := h
theorem essz_append (a b : List (List Ent)) : esszL (a ++ b) = esszL a + esszL b := by unfold esszL; simp; omega
theorem essz_one (a : List Ent) : esszL [a] = 1 + eszL a := by simp [esszL]
end Go.Proofs.YtjhbffndiaggmaaDoor

/-
  The statements' helpers that mark a log's memory and look whether the marks are held. The conditions are bounds on lengths.
-/
namespace Go.Proofs.YtjhbffndiaggmaaDoor
open Go.RowKit Go.ChangeShapes Go.WideShapes
set_option linter.unusedVariables false
set_option linter.unusedSimpArgs false

section
variable {w w' : World} {lo hi l r : Nat} {u : Value} {s : List Int}
/-- the blocks of a slice of integers that a call has made, as narrow as they go -/
theorem Own.tight (h : Own w lo hi u s) : ∃ l r, Own w l r u s ∧ ∀ b, l ≤ b → b < r → u.ownBlock = some b ∧ lo ≤ b ∧ b < hi := by
  have hlt := h.2
  rcases h.1.2 with ⟨rfl, h0⟩ | ⟨g, cap, cur, rfl, hb, hg, hnc, hcm, hsz, htk⟩
  · obtain rfl : s = [] := List.eq_nil_of_length_eq_zero h0
    exact ⟨0, 0, Own.nil, fun b _ hb => absurd hb (by omega)⟩
  · refine ⟨g, g + 1, ⟨⟨h.1.1, .inr ⟨g, cap, cur, rfl, Nat.le_refl _, hg, hnc, hcm, hsz, htk⟩⟩, fun k hk => ?_⟩, fun b h1 h2 => ?_⟩
    · have : g = k := by simpa [Value.ownBlock] using hk
      omega
    · obtain rfl : b = g := by omega
      exact ⟨by simp [Value.ownBlock], hb, hlt b (by simp [Value.ownBlock])⟩
theorem Own.wide (h : Own w l r u s) (hb : ∀ b, l ≤ b → b < r → lo ≤ b ∧ b < hi) : Own w lo hi u s := by
  have hlt := h.2
  rcases h.1.2 with ⟨rfl, h0⟩ | ⟨g, cap, cur, rfl, hb', hg, hnc, hcm, hsz, htk⟩
  · obtain rfl : s = [] := List.eq_nil_of_length_eq_zero h0
    exact Own.nil
  · have hg2 := hlt g (by simp [Value.ownBlock])
    have := hb g hb' hg2
    refine ⟨⟨h.1.1, .inr ⟨g, cap, cur, rfl, this.1, hg, hnc, hcm, hsz, htk⟩⟩, fun k hk => ?_⟩
    have : g = k := by simpa [Value.ownBlock] using hk
    omega
theorem Own.set3 {g : Nat} (h : Own w l r u s) (hn : u.ownBlock ≠ some g) (i j k : Nat) (x y z : Value) : Own (((w.setCell ⟨g, i, none⟩ x).setCell ⟨g, j, none⟩ y).setCell ⟨g, k, none⟩ z) l r u s :=
  ((h.setOther (p := ⟨g, i, none⟩) hn x).setOther (p := ⟨g, j, none⟩) hn y).setOther (p := ⟨g, k, none⟩) hn z
end

theorem Fr.widen {w w' : World} {l r lo hi : Nat} (h : Fr l r w w') (hb : ∀ b, l ≤ b → b < r → lo ≤ b ∧ b < hi) : Fr lo hi w w' :=
  ⟨h.os, h.tape, h.output, h.size, fun b h1 h2 => h.block b h1 (by
    by_cases hx : l ≤ b ∧ b < r
    · have := hb b hx.1 hx.2; omega
    · omega)⟩

/-- the k-th entry of a made log, opened for marks: its cells, its two slices in blocks of their own, and the log behind the marks -/
theorem OwnE.open_ {w : World} {lo hi n c k : Nat} {A : Option Addr} {es : List Ent} (h : OwnE w lo hi (.slice A n c) es) (hk : k < es.length) :
    ∃ g A1 c1 A2 c2 l1 r1 l2 r2, A = some ⟨g, 0, none⟩ ∧ lo ≤ g ∧ g < hi ∧ g < w.heap.size ∧ (∃ x0, w.cell? ⟨g, k * 5, none⟩ = some x0) ∧ (∃ x1, w.cell? ⟨g, k * 5 + 1, none⟩ = some x1) ∧ (∃ x2, w.cell? ⟨g, k * 5 + 2, none⟩ = some x2) ∧
      w.cell? ⟨g, k * 5 + 3, none⟩ = some (.slice A1 es[k].seen.length c1) ∧ w.cell? ⟨g, k * 5 + 4, none⟩ = some (.slice A2 es[k].shown.length c2) ∧ (∀ j, w.frozen? ⟨g, j, none⟩ = false) ∧
      Own w l1 r1 (.slice A1 es[k].seen.length c1) es[k].seen ∧ Own w l2 r2 (.slice A2 es[k].shown.length c2) es[k].shown ∧ (Value.slice A1 es[k].seen.length c1).ownBlock ≠ some g ∧ (Value.slice A2 es[k].shown.length c2).ownBlock ≠ some g ∧
      (∀ b, l1 ≤ b → b < r1 → b ≠ g ∧ lo ≤ b ∧ b < hi ∧ ¬ (l2 ≤ b ∧ b < r2)) ∧ (∀ b, l2 ≤ b → b < r2 → b ≠ g ∧ lo ≤ b ∧ b < hi) ∧
      ∀ (w' : World) (t m p : Int) (s' t' : List Int), s'.length = es[k].seen.length → t'.length = es[k].shown.length →
        w'.heap[g]? = (((w.setCell ⟨g, k * 5, none⟩ (.int .i64 t)).setCell ⟨g, k * 5 + 1, none⟩ (.int .i64 m)).setCell ⟨g, k * 5 + 2, none⟩ (.int .i64 p)).heap[g]? →
        (∀ b, b ≠ g → ¬ (l1 ≤ b ∧ b < r1) → ¬ (l2 ≤ b ∧ b < r2) → b < w.heap.size → w'.heap[b]? = w.heap[b]?) →
        Own w' l1 r1 (.slice A1 es[k].seen.length c1) s' → Own w' l2 r2 (.slice A2 es[k].shown.length c2) t' → OwnE w' lo hi (.slice A n c) (es.set k ⟨t, m, p, s', t'⟩) := by
  rcases h with ⟨_, rfl⟩ | ⟨g, cap, cur, U, V, e0, a1, a2, hg, c1, c2, c3, hj, hdj⟩
  · exact absurd hk (by simp)
  · injection e0 with e1 e2 e3
    subst e1 e2 e3
    have hc : ∀ i, w.cell? ⟨g, i, none⟩ = cur[i]? := fun i => cell_of_row w g i cur _ _ hg
    obtain ⟨⟨x0, x1, x2, x3, x4⟩, hu, hv⟩ := hj k hk
    obtain ⟨A1, d1, eu, _, _⟩ := hu.rd
    obtain ⟨A2, d2, ev, _, _⟩ := hv.rd
    have nu := hu.ne_ent hg
    have nv := hv.ne_ent hg
    have dk := hdj.1 k hk
    obtain ⟨l1, r1, hu1, tu⟩ := hu.tight
    obtain ⟨l2, r2, hv1, tv⟩ := hv.tight
    refine ⟨g, A1, d1, A2, d2, l1, r1, l2, r2, rfl, a1, a2, (Array.getElem?_eq_some_iff.1 hg).1, ⟨_, (hc _).trans x0⟩, ⟨_, (hc _).trans x1⟩, ⟨_, (hc _).trans x2⟩, (hc _).trans (x3.trans (by rw [eu])), (hc _).trans (x4.trans (by rw [ev])), fun j => by simp [World.frozen?, hg], eu ▸ hu1, ev ▸ hv1, eu ▸ nu, ev ▸ nv, ?_, ?_, ?_⟩
    · intro b hb1 hb2
      obtain ⟨o1, o2, o3⟩ := tu b hb1 hb2
      refine ⟨fun e => nu (by rw [o1, e]), o2, o3, fun ⟨h1, h2⟩ => ?_⟩
      obtain ⟨p1, _⟩ := tv b h1 h2
      rcases dk with d | d
      · rw [o1] at d; cases d
      · exact d (by rw [o1, p1])
    · intro b hb1 hb2
      obtain ⟨o1, o2, o3⟩ := tv b hb1 hb2
      exact ⟨fun e => nv (by rw [o1, e]), o2, o3⟩
    · intro w' t m p s' t' ls lt hgw hoth hs' ht'
      rw [← eu] at hs'
      rw [← ev] at ht'
      have hbk := ((((show Bk w g _ cur from hg).set_ (k * 5) (.int .i64 t)).set_ (k * 5 + 1) (.int .i64 m)).set_ (k * 5 + 2) (.int .i64 p))
      have hcell : ∀ i, i ≠ k * 5 → i ≠ k * 5 + 1 → i ≠ k * 5 + 2 → (((cur.setIfInBounds (k * 5) (.int .i64 t)).setIfInBounds (k * 5 + 1) (.int .i64 m)).setIfInBounds (k * 5 + 2) (.int .i64 p))[i]? = cur[i]? := fun i h0 h1 h2 => by
        rw [Array.getElem?_setIfInBounds_ne (by omega), Array.getElem?_setIfInBounds_ne (by omega), Array.getElem?_setIfInBounds_ne (by omega)]
      have hkeep : ∀ {y : Value} {q : List Int}, Own w lo hi y q → Dj y (U k) → Dj y (V k) → Own w' lo hi y q := fun {y q} ho d1 d2 => by
        refine ho.keep fun b hb _ _ hlt => hoth b (fun e => ho.ne_ent hg (by rw [hb, e])) (fun ⟨h1, h2⟩ => ?_) (fun ⟨h1, h2⟩ => ?_) hlt
        · obtain ⟨o1, _⟩ := tu b h1 h2
          rcases d1 with d | d
          · rw [hb] at d; cases d
          · exact d (by rw [o1, hb])
        · obtain ⟨o1, _⟩ := tv b h1 h2
          rcases d2 with d | d
          · rw [hb] at d; cases d
          · exact d (by rw [o1, hb])
      refine .inr ⟨g, c, _, U, V, by rw [List.length_set], a1, a2, hgw.trans hbk, by rw [List.length_set]; exact c1, c2, by simpa using c3, ?_, by rw [List.length_set]; exact hdj⟩
      intro j hjl
      rw [List.length_set] at hjl
      by_cases hjk : j = k
      · subst hjk
        simp only [List.getElem_set_self]
        refine ⟨⟨by simp [Array.getElem?_setIfInBounds]; omega, by simp [Array.getElem?_setIfInBounds]; omega, by simp [Array.getElem?_setIfInBounds]; omega, (hcell _ (by omega) (by omega) (by omega)).trans x3, (hcell _ (by omega) (by omega) (by omega)).trans x4⟩, hs'.wide fun b h1 h2 => (tu b h1 h2).2, ht'.wide fun b h1 h2 => (tv b h1 h2).2⟩
      · simp only [List.getElem_set_ne (Ne.symm hjk)]
        obtain ⟨⟨y0, y1, y2, y3, y4⟩, p1, p2⟩ := hj j hjl
        have dd := hdj.2 j k hjl hk hjk
        exact ⟨⟨(hcell _ (by omega) (by omega) (by omega)).trans y0, (hcell _ (by omega) (by omega) (by omega)).trans y1, (hcell _ (by omega) (by omega) (by omega)).trans y2, (hcell _ (by omega) (by omega) (by omega)).trans y3, (hcell _ (by omega) (by omega) (by omega)).trans y4⟩, hkeep p1 dd.1 dd.2.1, hkeep p2 dd.2.2.1 dd.2.2.2⟩

/-- the marks -/
def mkEnt (e : Ent) (k : Int) : Ent := ⟨k, k + 1, k + 1 + 1, fill (k + 1 + 1 + 1) e.seen.length, fill (k + 1 + 1 + 1 + e.seen.length) e.shown.length⟩
def mkW (e : Ent) : Nat := 3 + e.seen.length + e.shown.length
def mkSum (es : List Ent) (j : Nat) : Nat := ((es.take j).map mkW).sum
theorem mkSum_zero (es : List Ent) : mkSum es 0 = 0 := by simp [mkSum]
theorem mkSum_succ (es : List Ent) (k : Nat) (h : k < es.length) : mkSum es (k + 1) = mkSum es k + mkW es[k] := by
  unfold mkSum; rw [List.take_succ_eq_append_getElem h, List.map_append, List.sum_append]; simp
theorem mkSum_psum (es : List Ent) (k : Nat) (h : k ≤ es.length) : mkSum es k = 3 * k + psum es k := by
  induction k with
  | zero => simp [mkSum, psum]
  | succ k ih => rw [mkSum_succ es k h, psum_succ es k h, ih (by omega)]; unfold mkW; omega
theorem mkSum_le (es : List Ent) (k : Nat) (h : k ≤ es.length) : mkSum es k ≤ 3 * eszL es := by
  have := mkSum_psum es k h; have := psum_le es k; unfold eszL; omega
def mkTo (es : List Ent) (k0 : Int) (j : Nat) : List Ent := es.mapIdx fun i e => if i < j then mkEnt e (k0 + mkSum es i) else e
theorem mkTo_len (es : List Ent) (k0 : Int) (j : Nat) : (mkTo es k0 j).length = es.length := by simp [mkTo]
theorem mkTo_zero (es : List Ent) (k0 : Int) : mkTo es k0 0 = es := by
  apply List.ext_getElem (by simp [mkTo])
  intro i h1 h2
  simp [mkTo]
theorem mkTo_get (es : List Ent) (k0 : Int) (k : Nat) (h : k < es.length) (h' : k < (mkTo es k0 k).length) : (mkTo es k0 k)[k] = es[k] := by simp [mkTo]
theorem mkTo_succ (es : List Ent) (k0 : Int) (k : Nat) (h : k < es.length) : (mkTo es k0 k).set k (mkEnt es[k] (k0 + mkSum es k)) = mkTo es k0 (k + 1) := by
  apply List.ext_getElem (by simp [mkTo])
  intro i h1 h2
  rw [List.getElem_set]
  by_cases e : k = i
  · subst e
    simp [mkTo]
  · rw [if_neg e]
    simp only [mkTo, List.getElem_mapIdx]
    by_cases e2 : i < k
    · rw [if_pos e2, if_pos (by omega)]
    · rw [if_neg e2, if_neg (by omega)]
def mkL (es : List Ent) (k0 : Int) : List Ent := mkTo es k0 es.length

end Go.Proofs.YtjhbffndiaggmaaDoor

/-
  Contracts on slices of logs: the statements' helpers (size, copy, equality). The conditions are bounds on lengths.
-/
namespace Go.Proofs.YtjhbffndiaggmaaDoor
open Go.RowKit Go.ChangeShapes Go.WideShapes
set_option linter.unusedVariables false
set_option linter.unusedSimpArgs false

end Go.Proofs.YtjhbffndiaggmaaDoor
