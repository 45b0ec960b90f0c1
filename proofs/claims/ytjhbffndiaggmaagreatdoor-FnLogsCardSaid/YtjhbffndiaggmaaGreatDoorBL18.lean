/-
  Contracts and plain laws that the walk uses, several texts in one. The conditions are named ahead of each.
-/
import Derived.Test.YtjhbffndiaggmaaGreatDoorBL3
import Derived.Test.YtjhbffndiaggmaaGreatDoorZLInts

/-
  Contracts on log entries: the statements' helpers, and validity in the program and the reference. The conditions are bounds on lengths.
-/
namespace Go.Proofs.YtjhbffndiaggmaaGreatDoor
open Go.RowKit Go.ChangeShapes Go.WideShapes
set_option linter.unusedVariables false

/-- an entry's data -/
structure Ent where
  time : Int
  msg : Int
  part : Int
  seen : List Int
  shown : List Int

/-- two values do not share a block -/
def Dj (u v : Value) : Prop := u.ownBlock = none ∨ u.ownBlock ≠ v.ownBlock
theorem Dj.of_lt {w w' : World} {l1 h1 l2 h2 : Nat} {u v : Value} {xs ys : List Int} (hu : Own w l1 h1 u xs) (hv : Own w' l2 h2 v ys) (h : h1 ≤ l2) : Dj u v := by
  unfold Dj
  cases hb : u.ownBlock with
  | none => exact .inl rfl
  | some k =>
    right
    intro e
    have a := (hu.lt k hb).2.1
    have b := (hv.lt k e.symm).1
    omega

def szP (a b : Nat) (left : Int) : Int := szL (a + b) left
def sgB (s : List Int) : Bool := inB (s.length : Int) 1 8 && allB s 0 63
def enB (t m p : Int) (y z : List Int) : Bool := inB t 0 10000 && (inB m 1 999 && (inB p 0 8 && (sgB y && sgB z)))
def eqEn (t1 m1 p1 : Int) (y1 z1 : List Int) (t2 m2 p2 : Int) (y2 z2 : List Int) : Bool := decide (t1 = t2) && (decide (m1 = m2) && (decide (p1 = p2) && (eqL y1 y2 && eqL z1 z2)))
theorem eqEn_self (t m p : Int) (y z : List Int) : eqEn t m p y z t m p y z = true := by simp [eqEn, eqL]


theorem lgSignals_any (s : List Int) (A : Option Addr) (c : Nat) {l h : Nat} (w : World) (hr : Rd w l h A s) (hl : s.length ≤ 9223372036854775806) :
    Calls Tryz.prog 191 #[.slice A s.length c] w fun e w' => e = .returned (.bool (sgB s)) ∧ w = w' := by
  cases h1 : inB (s.length : Int) 1 8 with
  | true =>
    have hq := Lib.hid (show sgB s = allB s 0 63 by simp [sgB, h1])
    go_enter Tryz.func191, Tryz.ntmps191
    go_wp2_with (first
      | (go_at_call 104; refine (l1In_any _ _ _ _).mono ?_; rintro e w' ⟨rfl, rfl⟩)
      | (go_at_call 186; refine (l1All_any s A c _ _ _ hr (by omega)).mono ?_; rintro e w' ⟨rfl, rfl⟩))
    go_ret
    exact ⟨by rw [hq.out]; rfl, rfl⟩
  | false =>
    have hq := Lib.hid (show sgB s = false by simp [sgB, h1])
    go_enter Tryz.func191, Tryz.ntmps191
    go_wp2_with (first
      | (go_at_call 104; refine (l1In_any _ _ _ _).mono ?_; rintro e w' ⟨rfl, rfl⟩))
    go_ret
    exact ⟨by rw [hq.out]; rfl, rfl⟩
set_option maxHeartbeats 4000000 in
theorem lgEntry_any (t1 m1 p1 : Int) (y1 : List Int) (A1 : Option Addr) (c1 : Nat) (z1 : List Int) (B1 : Option Addr) (d1 : Nat) {l1 h1 l2 h2 : Nat} (w : World) (ry1 : Rd w l1 h1 A1 y1) (rz1 : Rd w l2 h2 B1 z1) (hy1 : y1.length ≤ 9223372036854775806) (hz1 : z1.length ≤ 9223372036854775806) :
    Calls Tryz.prog 162 #[.agg #[.int .i64 t1, .int .i64 m1, .int .i64 p1, .slice A1 y1.length c1, .slice B1 z1.length d1]] w fun e w' => e = .returned (.bool (enB t1 m1 p1 y1 z1)) ∧ Below w.heap.size w w' := by
  have hb : ∀ o1 : Obj, Below w.heap.size w (w.alloc o1) := fun o1 => (Below.refl _ _).alloc (Nat.le_refl _) _
  cases g0 : inB t1 0 10000 with
  | false =>
    have hq := Lib.hid (show enB t1 m1 p1 y1 z1 = false by simp [enB, g0])
    go_enter Tryz.func162, Tryz.ntmps162
    go_wp2_with (first | (go_at_call 104; refine (l1In_any _ _ _ _).mono ?_; rintro e w' ⟨rfl, rfl⟩) | (go_at_call 191; ((with_reducible refine (lgSignals_any y1 A1 c1 _ (ry1.alloc _) hy1).mono ?_); rintro e w' ⟨rfl, rfl⟩)) | (go_at_call 191; ((with_reducible refine (lgSignals_any z1 B1 d1 _ (rz1.alloc _) hz1).mono ?_); rintro e w' ⟨rfl, rfl⟩)))
    go_ret
    exact ⟨by rw [hq.out]; rfl, hb _⟩
  | true =>
    cases g1 : inB m1 1 999 with
    | false =>
      have hq := Lib.hid (show enB t1 m1 p1 y1 z1 = false by simp [enB, g1])
      go_enter Tryz.func162, Tryz.ntmps162
      go_wp2_with (first | (go_at_call 104; refine (l1In_any _ _ _ _).mono ?_; rintro e w' ⟨rfl, rfl⟩) | (go_at_call 191; ((with_reducible refine (lgSignals_any y1 A1 c1 _ (ry1.alloc _) hy1).mono ?_); rintro e w' ⟨rfl, rfl⟩)) | (go_at_call 191; ((with_reducible refine (lgSignals_any z1 B1 d1 _ (rz1.alloc _) hz1).mono ?_); rintro e w' ⟨rfl, rfl⟩)))
      go_ret
      exact ⟨by rw [hq.out]; rfl, hb _⟩
    | true =>
      cases g2 : inB p1 0 8 with
      | false =>
        have hq := Lib.hid (show enB t1 m1 p1 y1 z1 = false by simp [enB, g2])
        go_enter Tryz.func162, Tryz.ntmps162
        go_wp2_with (first | (go_at_call 104; refine (l1In_any _ _ _ _).mono ?_; rintro e w' ⟨rfl, rfl⟩) | (go_at_call 191; ((with_reducible refine (lgSignals_any y1 A1 c1 _ (ry1.alloc _) hy1).mono ?_); rintro e w' ⟨rfl, rfl⟩)) | (go_at_call 191; ((with_reducible refine (lgSignals_any z1 B1 d1 _ (rz1.alloc _) hz1).mono ?_); rintro e w' ⟨rfl, rfl⟩)))
        go_ret
        exact ⟨by rw [hq.out]; rfl, hb _⟩
      | true =>
        cases g3 : sgB y1 with
        | false =>
          have hq := Lib.hid (show enB t1 m1 p1 y1 z1 = false by simp [enB, g3])
          go_enter Tryz.func162, Tryz.ntmps162
          go_wp2_with (first | (go_at_call 104; refine (l1In_any _ _ _ _).mono ?_; rintro e w' ⟨rfl, rfl⟩) | (go_at_call 191; ((with_reducible refine (lgSignals_any y1 A1 c1 _ (ry1.alloc _) hy1).mono ?_); rintro e w' ⟨rfl, rfl⟩)) | (go_at_call 191; ((with_reducible refine (lgSignals_any z1 B1 d1 _ (rz1.alloc _) hz1).mono ?_); rintro e w' ⟨rfl, rfl⟩)))
          go_ret
          exact ⟨by rw [hq.out]; rfl, hb _⟩
        | true =>
          have hq := Lib.hid (show enB t1 m1 p1 y1 z1 = sgB z1 by simp [enB, g0, g1, g2, g3])
          go_enter Tryz.func162, Tryz.ntmps162
          go_wp2_with (first | (go_at_call 104; refine (l1In_any _ _ _ _).mono ?_; rintro e w' ⟨rfl, rfl⟩) | (go_at_call 191; ((with_reducible refine (lgSignals_any y1 A1 c1 _ (ry1.alloc _) hy1).mono ?_); rintro e w' ⟨rfl, rfl⟩)) | (go_at_call 191; ((with_reducible refine (lgSignals_any z1 B1 d1 _ (rz1.alloc _) hz1).mono ?_); rintro e w' ⟨rfl, rfl⟩)))
          go_ret
          exact ⟨by rw [hq.out]; rfl, hb _⟩
set_option maxHeartbeats 4000000 in
theorem iIsEntry_any (t1 m1 p1 : Int) (y1 : List Int) (A1 : Option Addr) (c1 : Nat) (z1 : List Int) (B1 : Option Addr) (d1 : Nat) {l1 h1 l2 h2 : Nat} (w : World) (ry1 : Rd w l1 h1 A1 y1) (rz1 : Rd w l2 h2 B1 z1) (hy1 : y1.length ≤ 9223372036854775806) (hz1 : z1.length ≤ 9223372036854775806) :
    Calls Tryz.prog 60 #[.agg #[.int .i64 t1, .int .i64 m1, .int .i64 p1, .slice A1 y1.length c1, .slice B1 z1.length d1]] w fun e w' => e = .returned (.bool (enB t1 m1 p1 y1 z1)) ∧ Below w.heap.size w w' := by
  have hb : ∀ o1 : Obj, Below w.heap.size w (w.alloc o1) := fun o1 => (Below.refl _ _).alloc (Nat.le_refl _) _
  cases g0 : inB t1 0 10000 with
  | false =>
    have hq := Lib.hid (show enB t1 m1 p1 y1 z1 = false by simp [enB, sgB, g0])
    go_enter Tryz.func60, Tryz.ntmps60
    go_wp2_with (first | (go_at_call 79; refine (within_any _ _ _ _).mono ?_; rintro e w' ⟨rfl, rfl⟩) | (go_at_call 80; ((with_reducible refine (allWithin_any y1 A1 c1 _ _ _ (ry1.alloc _) (by omega)).mono ?_); rintro e w' ⟨rfl, rfl⟩)) | (go_at_call 80; ((with_reducible refine (allWithin_any z1 B1 d1 _ _ _ (rz1.alloc _) (by omega)).mono ?_); rintro e w' ⟨rfl, rfl⟩)))
    go_ret
    exact ⟨by rw [hq.out]; rfl, hb _⟩
  | true =>
    cases g1 : inB m1 1 999 with
    | false =>
      have hq := Lib.hid (show enB t1 m1 p1 y1 z1 = false by simp [enB, sgB, g1])
      go_enter Tryz.func60, Tryz.ntmps60
      go_wp2_with (first | (go_at_call 79; refine (within_any _ _ _ _).mono ?_; rintro e w' ⟨rfl, rfl⟩) | (go_at_call 80; ((with_reducible refine (allWithin_any y1 A1 c1 _ _ _ (ry1.alloc _) (by omega)).mono ?_); rintro e w' ⟨rfl, rfl⟩)) | (go_at_call 80; ((with_reducible refine (allWithin_any z1 B1 d1 _ _ _ (rz1.alloc _) (by omega)).mono ?_); rintro e w' ⟨rfl, rfl⟩)))
      go_ret
      exact ⟨by rw [hq.out]; rfl, hb _⟩
    | true =>
      cases g2 : inB p1 0 8 with
      | false =>
        have hq := Lib.hid (show enB t1 m1 p1 y1 z1 = false by simp [enB, sgB, g2])
        go_enter Tryz.func60, Tryz.ntmps60
        go_wp2_with (first | (go_at_call 79; refine (within_any _ _ _ _).mono ?_; rintro e w' ⟨rfl, rfl⟩) | (go_at_call 80; ((with_reducible refine (allWithin_any y1 A1 c1 _ _ _ (ry1.alloc _) (by omega)).mono ?_); rintro e w' ⟨rfl, rfl⟩)) | (go_at_call 80; ((with_reducible refine (allWithin_any z1 B1 d1 _ _ _ (rz1.alloc _) (by omega)).mono ?_); rintro e w' ⟨rfl, rfl⟩)))
        go_ret
        exact ⟨by rw [hq.out]; rfl, hb _⟩
      | true =>
        cases g3 : inB (y1.length : Int) 1 8 with
        | false =>
          have hq := Lib.hid (show enB t1 m1 p1 y1 z1 = false by simp [enB, sgB, g3])
          go_enter Tryz.func60, Tryz.ntmps60
          go_wp2_with (first | (go_at_call 79; refine (within_any _ _ _ _).mono ?_; rintro e w' ⟨rfl, rfl⟩) | (go_at_call 80; ((with_reducible refine (allWithin_any y1 A1 c1 _ _ _ (ry1.alloc _) (by omega)).mono ?_); rintro e w' ⟨rfl, rfl⟩)) | (go_at_call 80; ((with_reducible refine (allWithin_any z1 B1 d1 _ _ _ (rz1.alloc _) (by omega)).mono ?_); rintro e w' ⟨rfl, rfl⟩)))
          go_ret
          exact ⟨by rw [hq.out]; rfl, hb _⟩
        | true =>
          cases g4 : allB y1 0 63 with
          | false =>
            have hq := Lib.hid (show enB t1 m1 p1 y1 z1 = false by simp [enB, sgB, g4])
            go_enter Tryz.func60, Tryz.ntmps60
            go_wp2_with (first | (go_at_call 79; refine (within_any _ _ _ _).mono ?_; rintro e w' ⟨rfl, rfl⟩) | (go_at_call 80; ((with_reducible refine (allWithin_any y1 A1 c1 _ _ _ (ry1.alloc _) (by omega)).mono ?_); rintro e w' ⟨rfl, rfl⟩)) | (go_at_call 80; ((with_reducible refine (allWithin_any z1 B1 d1 _ _ _ (rz1.alloc _) (by omega)).mono ?_); rintro e w' ⟨rfl, rfl⟩)))
            go_ret
            exact ⟨by rw [hq.out]; rfl, hb _⟩
          | true =>
            cases g5 : inB (z1.length : Int) 1 8 with
            | false =>
              have hq := Lib.hid (show enB t1 m1 p1 y1 z1 = false by simp [enB, sgB, g5])
              go_enter Tryz.func60, Tryz.ntmps60
              go_wp2_with (first | (go_at_call 79; refine (within_any _ _ _ _).mono ?_; rintro e w' ⟨rfl, rfl⟩) | (go_at_call 80; ((with_reducible refine (allWithin_any y1 A1 c1 _ _ _ (ry1.alloc _) (by omega)).mono ?_); rintro e w' ⟨rfl, rfl⟩)) | (go_at_call 80; ((with_reducible refine (allWithin_any z1 B1 d1 _ _ _ (rz1.alloc _) (by omega)).mono ?_); rintro e w' ⟨rfl, rfl⟩)))
              go_ret
              exact ⟨by rw [hq.out]; rfl, hb _⟩
            | true =>
              have hq := Lib.hid (show enB t1 m1 p1 y1 z1 = allB z1 0 63 by simp [enB, sgB, g0, g1, g2, g3, g4, g5])
              go_enter Tryz.func60, Tryz.ntmps60
              go_wp2_with (first | (go_at_call 79; refine (within_any _ _ _ _).mono ?_; rintro e w' ⟨rfl, rfl⟩) | (go_at_call 80; ((with_reducible refine (allWithin_any y1 A1 c1 _ _ _ (ry1.alloc _) (by omega)).mono ?_); rintro e w' ⟨rfl, rfl⟩)) | (go_at_call 80; ((with_reducible refine (allWithin_any z1 B1 d1 _ _ _ (rz1.alloc _) (by omega)).mono ?_); rintro e w' ⟨rfl, rfl⟩)))
              go_ret
              exact ⟨by rw [hq.out]; rfl, hb _⟩
end Go.Proofs.YtjhbffndiaggmaaGreatDoor

/-
  Words for memory: slices of log entries that read as lists of entries, and slices of entries that a call has made. No statement of the program stands here.
-/
namespace Go.Proofs.YtjhbffndiaggmaaGreatDoor
open Go.RowKit
set_option linter.unusedVariables false

/-- entry e lies in block b from offset o on -/
def EntAt (w : World) (lo hi b o : Nat) (e : Ent) : Prop :=
  ∃ A1 c1 A2 c2, w.cell? ⟨b, o, none⟩ = some (.int .i64 e.time) ∧ w.cell? ⟨b, o + 1, none⟩ = some (.int .i64 e.msg) ∧ w.cell? ⟨b, o + 2, none⟩ = some (.int .i64 e.part) ∧
    w.cell? ⟨b, o + 3, none⟩ = some (.slice A1 e.seen.length c1) ∧ w.cell? ⟨b, o + 4, none⟩ = some (.slice A2 e.shown.length c2) ∧ Rd w lo hi A1 e.seen ∧ Rd w lo hi A2 e.shown

/-- the slice value with address A reads as the entries es -/
def RdE (w : World) (lo hi : Nat) (A : Option Addr) (es : List Ent) : Prop :=
  0 < es.length → ∃ b off, A = some ⟨b, off, none⟩ ∧ lo ≤ b ∧ b < hi ∧ ∀ j (hj : j < es.length), EntAt w lo hi b (off + j * 5) es[j]

section
variable {w w' : World} {lo hi lo' hi' B b o : Nat} {A : Option Addr} {es : List Ent} {e : Ent}
theorem EntAt.mono (h : EntAt w lo hi b o e) (h1 : lo' ≤ lo) (h2 : hi ≤ hi') : EntAt w lo' hi' b o e := by
  obtain ⟨A1, c1, A2, c2, x0, x1, x2, x3, x4, r1, r2⟩ := h
  exact ⟨A1, c1, A2, c2, x0, x1, x2, x3, x4, r1.mono h1 h2, r2.mono h1 h2⟩
theorem EntAt.std (h : EntAt w lo hi b o e) : EntAt w 0 w.heap.size b o e := by
  obtain ⟨A1, c1, A2, c2, x0, x1, x2, x3, x4, r1, r2⟩ := h
  exact ⟨A1, c1, A2, c2, x0, x1, x2, x3, x4, r1.std, r2.std⟩
theorem EntAt.lt (h : EntAt w lo hi b o e) : b < w.heap.size := by
  obtain ⟨A1, c1, A2, c2, x0, _⟩ := h
  exact World.block_lt_of_cell? w _ x0
theorem EntAt.keep (h : EntAt w lo hi b o e) (hb : lo ≤ b ∧ b < hi) (hk : ∀ b o, lo ≤ b → b < hi → b < w.heap.size → w'.cell? ⟨b, o, none⟩ = w.cell? ⟨b, o, none⟩) : EntAt w' lo hi b o e := by
  have hl := h.lt
  obtain ⟨A1, c1, A2, c2, x0, x1, x2, x3, x4, r1, r2⟩ := h
  have k := fun o => hk b o hb.1 hb.2 hl
  exact ⟨A1, c1, A2, c2, (k _).trans x0, (k _).trans x1, (k _).trans x2, (k _).trans x3, (k _).trans x4, r1.keep hk, r2.keep hk⟩
theorem RdE.nil : RdE w lo hi A [] := fun h => absurd h (by simp)
theorem RdE.mono (h : RdE w lo hi A es) (h1 : lo' ≤ lo) (h2 : hi ≤ hi') : RdE w lo' hi' A es := fun hp => by
  obtain ⟨b, off, e, a1, a2, hc⟩ := h hp
  exact ⟨b, off, e, by omega, by omega, fun j hj => (hc j hj).mono h1 h2⟩
theorem RdE.std (h : RdE w lo hi A es) : RdE w 0 w.heap.size A es := fun hp => by
  obtain ⟨b, off, e, _, _, hc⟩ := h hp
  exact ⟨b, off, e, Nat.zero_le _, (hc 0 hp).lt, fun j hj => (hc j hj).std⟩
theorem RdE.keep (h : RdE w lo hi A es) (hk : ∀ b o, lo ≤ b → b < hi → b < w.heap.size → w'.cell? ⟨b, o, none⟩ = w.cell? ⟨b, o, none⟩) : RdE w' lo hi A es := fun hp => by
  obtain ⟨b, off, e, a1, a2, hc⟩ := h hp
  exact ⟨b, off, e, a1, a2, fun j hj => (hc j hj).keep ⟨a1, a2⟩ hk⟩
theorem RdE.below (h : RdE w lo hi A es) (hb : Below B w w') (hB : hi ≤ B) : RdE w' lo hi A es := h.keep fun b o _ h2 _ => hb.cell (p := ⟨b, o, none⟩) (by show b < B; omega)
theorem RdE.st (h : RdE w lo hi A es) (hb : Below w.heap.size w w') : RdE w' lo hi A es := h.keep fun b o _ _ h3 => hb.cell (p := ⟨b, o, none⟩) h3
theorem RdE.fr (h : RdE w lo hi A es) (hf : Fr lo' hi' w w') (hd : hi ≤ lo' ∨ hi' ≤ lo) : RdE w' lo hi A es :=
  h.keep fun b o h1 h2 h3 => World.cell?_of_block (w := w) (hf.block b h3 (by omega))
theorem RdE.drew (h : RdE w lo hi A es) : RdE w.drew lo hi A es := h
theorem RdE.drewN (h : RdE w lo hi A es) (k : Nat) : RdE (w.drewN k) lo hi A es := h
theorem RdE.alloc (h : RdE w lo hi A es) (o : Obj) : RdE (w.alloc o) lo hi A es := h.keep fun b o' _ _ h3 => World.cell?_alloc_lt w o _ (by exact h3)
/-- the first k of them: 'l[:k]' -/
theorem RdE.take (h : RdE w lo hi A es) (k : Nat) : RdE w lo hi A (es.take k) := fun hp => by
  rw [List.length_take] at hp
  obtain ⟨b, off, e, a1, a2, hc⟩ := h (by omega)
  refine ⟨b, off, e, a1, a2, fun j hj => ?_⟩
  rw [List.length_take] at hj
  have := hc j (by omega)
  rwa [List.getElem_take]
end

/-! ### what a call has made -/
/-- the cells of an entry in an array of cells, from o on; u, v: its two slices -/
def EntCells (cur : Array Value) (o : Nat) (e : Ent) (u v : Value) : Prop :=
  cur[o]? = some (.int .i64 e.time) ∧ cur[o + 1]? = some (.int .i64 e.msg) ∧ cur[o + 2]? = some (.int .i64 e.part) ∧ cur[o + 3]? = some u ∧ cur[o + 4]? = some v
/-- no two of these slices share a block -/
def DjV (n : Nat) (U V : Nat → Value) : Prop :=
  (∀ i, i < n → Dj (U i) (V i)) ∧ ∀ i j, i < n → j < n → i ≠ j → Dj (U i) (U j) ∧ Dj (U i) (V j) ∧ Dj (V i) (U j) ∧ Dj (V i) (V j)

/-- the slice value v has been made by a call: a block of its own that holds the entries es, each with two slices of its own, all in blocks from lo on and below hi, no two of them one. -/
def OwnE (w : World) (lo hi : Nat) (v : Value) (es : List Ent) : Prop :=
  (v = .slice none 0 0 ∧ es = []) ∨
  ∃ g cap cur U V, v = .slice (some ⟨g, 0, none⟩) es.length cap ∧ lo ≤ g ∧ g < hi ∧ w.heap[g]? = some (.cells cur 74 (0, 0)) ∧ es.length ≤ cap ∧ cap ≤ maxLen ∧ cur.size = cap * 5 ∧
    (∀ j (hj : j < es.length), EntCells cur (j * 5) es[j] (U j) (V j) ∧ Own w lo hi (U j) es[j].seen ∧ Own w lo hi (V j) es[j].shown) ∧ DjV es.length U V

section
variable {w w' : World} {lo hi lo' hi' B g : Nat} {v : Value} {es : List Ent}
theorem OwnE.nil : OwnE w lo hi (.slice none 0 0) [] := .inl ⟨rfl, rfl⟩
theorem OwnE.mono (h : OwnE w lo hi v es) (h1 : lo' ≤ lo) (h2 : hi ≤ hi') : OwnE w lo' hi' v es := by
  rcases h with h | ⟨g, cap, cur, U, V, e, a1, a2, hg, c1, c2, c3, hj, hd⟩
  · exact .inl h
  · exact .inr ⟨g, cap, cur, U, V, e, by omega, by omega, hg, c1, c2, c3, fun j h => ⟨(hj j h).1, (hj j h).2.1.mono h1 h2, (hj j h).2.2.mono h1 h2⟩, hd⟩
theorem OwnE.keep (h : OwnE w lo hi v es) (hk : ∀ k, lo ≤ k → k < hi → k < w.heap.size → w'.heap[k]? = w.heap[k]?) : OwnE w' lo hi v es := by
  rcases h with h | ⟨g, cap, cur, U, V, e, a1, a2, hg, c1, c2, c3, hj, hd⟩
  · exact .inl h
  · exact .inr ⟨g, cap, cur, U, V, e, a1, a2, (hk g a1 a2 (Array.getElem?_eq_some_iff.1 hg).1).trans hg, c1, c2, c3, fun j h => ⟨(hj j h).1, (hj j h).2.1.keep fun k _ => hk k, (hj j h).2.2.keep fun k _ => hk k⟩, hd⟩
theorem OwnE.st (h : OwnE w lo hi v es) (hb : Below w.heap.size w w') : OwnE w' lo hi v es := h.keep fun k _ _ h3 => hb.block k h3
theorem OwnE.below (h : OwnE w lo hi v es) (hb : Below B w w') (hB : hi ≤ B ∨ w.heap.size ≤ B) : OwnE w' lo hi v es := h.keep fun k _ h2 h3 => hb.block k (by omega)
theorem OwnE.fr (h : OwnE w lo hi v es) (hf : Fr lo' hi' w w') (hd : hi ≤ lo' ∨ hi' ≤ lo) : OwnE w' lo hi v es := h.keep fun k h1 h2 h3 => hf.block k h3 (by omega)
theorem OwnE.drew (h : OwnE w lo hi v es) : OwnE w.drew lo hi v es := h
theorem OwnE.drewN (h : OwnE w lo hi v es) (k : Nat) : OwnE (w.drewN k) lo hi v es := h
theorem OwnE.alloc (h : OwnE w lo hi v es) (o : Obj) : OwnE (w.alloc o) lo hi v es := h.keep fun k _ _ h3 => Below.heap_alloc w o k h3
theorem OwnE.setCell (h : OwnE w lo hi v es) {p : Addr} (hp : p.block < lo ∨ hi ≤ p.block) (u : Value) : OwnE (w.setCell p u) lo hi v es := h.keep fun k h1 h2 _ => Below.heap_setCell w p u k (by omega)
theorem OwnE.rd (h : OwnE w lo hi v es) : ∃ A c, v = .slice A es.length c ∧ RdE w lo hi A es ∧ c ≤ maxLen := by
  rcases h with ⟨rfl, rfl⟩ | ⟨g, cap, cur, U, V, rfl, a1, a2, hg, c1, c2, c3, hj, hd⟩
  · exact ⟨none, 0, rfl, RdE.nil, by simp [maxLen]⟩
  · refine ⟨_, cap, rfl, fun hp => ⟨g, 0, rfl, a1, a2, fun j h => ?_⟩, c2⟩
    obtain ⟨⟨x0, x1, x2, x3, x4⟩, hu, hv⟩ := hj j h
    obtain ⟨A1, d1, e1, r1, _⟩ := hu.rd
    obtain ⟨A2, d2, e2, r2, _⟩ := hv.rd
    have hc : ∀ i, w.cell? ⟨g, i, none⟩ = cur[i]? := fun i => cell_of_row w g i cur _ _ hg
    rw [Nat.zero_add]
    exact ⟨A1, d1, A2, d2, (hc _).trans x0, (hc _).trans x1, (hc _).trans x2, (hc _).trans (x3.trans (by rw [e1])), (hc _).trans (x4.trans (by rw [e2])), r1, r2⟩
theorem OwnE.rd' {A : Option Addr} {n c : Nat} (h : OwnE w lo hi (.slice A n c) es) : RdE w lo hi A es := by
  obtain ⟨A', c', he, hr, _⟩ := h.rd
  injection he with h1 h2 h3
  subst h1
  exact hr
theorem OwnE.len {A : Option Addr} {n c : Nat} (h : OwnE w lo hi (.slice A n c) es) : n = es.length := by
  obtain ⟨A', c', he, _⟩ := h.rd
  injection he

/-- a slice of integers never lies in a block of entries -/
theorem Own.ne_ent {u : Value} {s : List Int} {cur : Array Value} (h : Own w lo hi u s) (hg : w.heap[g]? = some (.cells cur 74 (0, 0))) : u.ownBlock ≠ some g := by
  rcases h.1.2 with ⟨rfl, _⟩ | ⟨g', cap, cur', rfl, _, hh, _⟩
  · simp [Value.ownBlock]
  · intro he
    have : g' = g := by simpa [Value.ownBlock] using he
    subst this
    rw [hg] at hh
    injection hh with hh
    injection hh with _ ht
    exact absurd ht (by decide)
theorem Own.setOther {u : Value} {s : List Int} (h : Own w lo hi u s) {p : Addr} (hp : u.ownBlock ≠ some p.block) (x : Value) : Own (w.setCell p x) lo hi u s :=
  h.keep fun k hk _ _ _ => Below.heap_setCell w p x k (fun e => hp (by rw [hk, e]))

/-- the five stores of an entry -/
def wEnt (w : World) (g o : Nat) (e : Ent) (u v : Value) : World :=
  ((((w.setCell ⟨g, o, none⟩ (.int .i64 e.time)).setCell ⟨g, o + 1, none⟩ (.int .i64 e.msg)).setCell ⟨g, o + 2, none⟩ (.int .i64 e.part)).setCell ⟨g, o + 3, none⟩ u).setCell ⟨g, o + 4, none⟩ v
def setEntCells (cur : Array Value) (o : Nat) (e : Ent) (u v : Value) : Array Value :=
  ((((cur.setIfInBounds o (.int .i64 e.time)).setIfInBounds (o + 1) (.int .i64 e.msg)).setIfInBounds (o + 2) (.int .i64 e.part)).setIfInBounds (o + 3) u).setIfInBounds (o + 4) v
theorem setEntCells_size (cur : Array Value) (o : Nat) (e : Ent) (u v : Value) : (setEntCells cur o e u v).size = cur.size := by simp [setEntCells]
theorem setEntCells_same (cur : Array Value) (o : Nat) (e : Ent) (u v : Value) (h : o + 4 < cur.size) : EntCells (setEntCells cur o e u v) o e u v := by
  unfold EntCells setEntCells
  refine ⟨?_, ?_, ?_, ?_, ?_⟩ <;> simp [Array.getElem?_setIfInBounds, Array.size_setIfInBounds] <;> omega
theorem setEntCells_other (cur : Array Value) (o i : Nat) (e : Ent) (u v : Value) (h : i < o ∨ o + 4 < i) : (setEntCells cur o e u v)[i]? = cur[i]? := by
  unfold setEntCells
  simp only [Array.getElem?_setIfInBounds]
  repeat rw [if_neg (by omega)]
theorem setEnt_heap {cur : Array Value} {t : TypeId} (hg : w.heap[g]? = some (.cells cur t (0, 0))) (o : Nat) (e : Ent) (u v : Value) : (wEnt w g o e u v).heap[g]? = some (.cells (setEntCells cur o e u v) t (0, 0)) := by
  unfold wEnt setEntCells
  exact ((((Bk.set_ (show Bk w g t cur from hg) o _).set_ (o + 1) _).set_ (o + 2) _).set_ (o + 3) _).set_ (o + 4) _
theorem setEnt_other (w : World) (g o k : Nat) (e : Ent) (u v : Value) (h : k ≠ g) : (wEnt w g o e u v).heap[k]? = w.heap[k]? := by
  unfold wEnt
  rw [Below.heap_setCell _ _ _ _ h, Below.heap_setCell _ _ _ _ h, Below.heap_setCell _ _ _ _ h, Below.heap_setCell _ _ _ _ h, Below.heap_setCell _ _ _ _ h]
theorem setEnt_size (w : World) (g o : Nat) (e : Ent) (u v : Value) : (wEnt w g o e u v).heap.size = w.heap.size := by simp [wEnt]
theorem setEnt_below {B g o : Nat} {w0 : World} (h : Below B w0 w) (hB : B ≤ g) (e : Ent) (u v : Value) : Below B w0 (wEnt w g o e u v) :=
  ((((h.setCell (p := ⟨g, o, none⟩) hB _).setCell (p := ⟨g, o + 1, none⟩) hB _).setCell (p := ⟨g, o + 2, none⟩) hB _).setCell (p := ⟨g, o + 3, none⟩) hB _).setCell (p := ⟨g, o + 4, none⟩) hB _
theorem setEnt_fr {o : Nat} {w0 : World} (h : Fr lo hi w0 w) (hB : lo ≤ g ∧ g < hi) (e : Ent) (u v : Value) : Fr lo hi w0 (wEnt w g o e u v) :=
  ((((h.setCell (p := ⟨g, o, none⟩) hB _).setCell (p := ⟨g, o + 1, none⟩) hB _).setCell (p := ⟨g, o + 2, none⟩) hB _).setCell (p := ⟨g, o + 3, none⟩) hB _).setCell (p := ⟨g, o + 4, none⟩) hB _

/-- an entry is stored at place k, its two slices just made -/
theorem OwnE.stored {n c k : Nat} {hi2 : Nat} (h : OwnE w lo hi (.slice (some ⟨g, 0, none⟩) n c) es) (hk : k < es.length) (e : Ent) (u x : Value) (hu : Own w hi hi2 u e.seen) (hx : Own w hi hi2 x e.shown) (hd : Dj u x) (hl : lo ≤ hi) (hh : hi ≤ hi2) :
    OwnE (wEnt w g (k * 5) e u x) lo hi2 (.slice (some ⟨g, 0, none⟩) n c) (es.set k e) := by
  rcases h with ⟨h, _⟩ | ⟨g', cap, cur, U, V, e0, a1, a2, hg, c1, c2, c3, hj, hdj⟩
  · cases h
  · injection e0 with e1 e2 e3
    injection e1 with e1
    injection e1 with e1
    subst e1 e2 e3
    have hother : ∀ {l h' : Nat} {y : Value} {s : List Int}, Own w l h' y s → Own (wEnt w g (k * 5) e u x) l h' y s := fun {l h' y s} ho =>
      ho.keep fun q hq _ _ _ => setEnt_other w g (k * 5) q e u x (fun e' => ho.ne_ent hg (by rw [hq, e']))
    refine .inr ⟨g, c, setEntCells cur (k * 5) e u x, fun j => if j = k then u else U j, fun j => if j = k then x else V j, by rw [List.length_set], a1, by omega, setEnt_heap hg _ _ _ _, by rw [List.length_set]; exact c1, c2, by rw [setEntCells_size]; exact c3, ?_, ?_⟩
    · intro j hjl
      rw [List.length_set] at hjl
      by_cases hjk : j = k
      · subst hjk
        simp only [if_true, List.getElem_set_self]
        exact ⟨setEntCells_same _ _ _ _ _ (by omega), (hother hu).mono hl (Nat.le_refl _), (hother hx).mono hl (Nat.le_refl _)⟩
      · simp only [if_neg hjk, List.getElem_set_ne (Ne.symm hjk)]
        obtain ⟨⟨x0, x1, x2, x3, x4⟩, p1, p2⟩ := hj j hjl
        have ho : ∀ r, r < 5 → (setEntCells cur (k * 5) e u x)[j * 5 + r]? = cur[j * 5 + r]? := fun r hr => setEntCells_other _ _ _ _ _ _ (by omega)
        exact ⟨⟨(ho 0 (by omega)).trans x0, (ho 1 (by omega)).trans x1, (ho 2 (by omega)).trans x2, (ho 3 (by omega)).trans x3, (ho 4 (by omega)).trans x4⟩, (hother p1).mono (Nat.le_refl _) hh, (hother p2).mono (Nat.le_refl _) hh⟩
    · rw [List.length_set]
      have hn1 : ∀ j, j < es.length → Dj (U j) u ∧ Dj (U j) x ∧ Dj (V j) u ∧ Dj (V j) x := fun j hjl =>
        ⟨Dj.of_lt (hj j hjl).2.1 hu (Nat.le_refl _), Dj.of_lt (hj j hjl).2.1 hx (Nat.le_refl _), Dj.of_lt (hj j hjl).2.2 hu (Nat.le_refl _), Dj.of_lt (hj j hjl).2.2 hx (Nat.le_refl _)⟩
      have sy : ∀ {p q : Value}, Dj p q → Dj q p := fun {p q} h => by
        unfold Dj at *
        cases hq : q.ownBlock with
        | none => exact .inl rfl
        | some z =>
          right
          rcases h with h | h
          · rw [h]; simp
          · rw [← hq]; exact fun e => h e.symm
      refine ⟨fun i hi' => ?_, fun i j hi' hj' hne => ?_⟩
      · by_cases hik : i = k
        · simp only [hik, if_true]; exact hd
        · simp only [if_neg hik]; exact hdj.1 i hi'
      · by_cases hik : i = k
        · have hjk : j ≠ k := fun h => hne (by rw [hik, h])
          simp only [hik, if_true, if_neg hjk]
          have := hn1 j hj'
          exact ⟨sy this.1, sy this.2.2.1, sy this.2.1, sy this.2.2.2⟩
        · by_cases hjk : j = k
          · simp only [hjk, if_true, if_neg hik]
            have := hn1 i hi'
            exact ⟨this.1, this.2.1, this.2.2.1, this.2.2.2⟩
          · simp only [if_neg hik, if_neg hjk]; exact hdj.2 i j hi' hj' hne
end

/-- an entry of zeros, and the first k of es with zeros behind -/
def ent0 : Ent := ⟨0, 0, 0, [], []⟩
def tkE (es : List Ent) (k : Nat) : List Ent := es.take k ++ List.replicate (es.length - k) ent0
theorem tkE_zero (es : List Ent) : tkE es 0 = List.replicate es.length ent0 := by simp [tkE]
theorem tkE_all (es : List Ent) : tkE es es.length = es := by simp [tkE]
theorem tkE_length (es : List Ent) (k : Nat) (h : k ≤ es.length) : (tkE es k).length = es.length := by simp [tkE]; omega
theorem tkE_succ (es : List Ent) (k : Nat) (h : k < es.length) : (tkE es k).set k es[k] = tkE es (k + 1) := by
  unfold tkE
  have hl : (es.take k).length = k := by simp; omega
  rw [List.set_append_right _ _ (by omega), hl, Nat.sub_self]
  obtain ⟨m, hm⟩ : ∃ m, es.length - k = m + 1 := ⟨es.length - k - 1, by omega⟩
  rw [hm, List.replicate_succ, List.set_cons_zero, List.take_succ_eq_append_getElem h, List.append_assoc, show es.length - (k + 1) = m from by omega]
  rfl

/-- how many values entries hold -/
def psum (es : List Ent) (k : Nat) : Nat := ((es.take k).map fun e => e.seen.length + e.shown.length).sum
def eszL (es : List Ent) : Nat := es.length + psum es es.length
theorem psum_zero (es : List Ent) : psum es 0 = 0 := by simp [psum]
theorem psum_succ (es : List Ent) (k : Nat) (h : k < es.length) : psum es (k + 1) = psum es k + (es[k].seen.length + es[k].shown.length) := by
  unfold psum; rw [List.take_succ_eq_append_getElem h, List.map_append, List.sum_append]; simp
theorem psum_le (es : List Ent) (k : Nat) : psum es k ≤ psum es es.length := by
  unfold psum
  rw [List.take_length]
  conv => rhs; rw [← List.take_append_drop k es]
  rw [List.map_append, List.sum_append]
  omega
theorem esz_len (es : List Ent) : es.length ≤ eszL es := by unfold eszL; omega
theorem esz_at (es : List Ent) (k : Nat) (h : k < es.length) : es[k].seen.length + es[k].shown.length ≤ eszL es := by
  have := psum_succ es k h; have := psum_le es (k + 1); unfold eszL; omega

theorem entInfo : (Tryz.prog.info? 74).map (fun i => (i.zero, i.size, i.bytes)) = some (some (.agg #[.int .i64 0, .int .i64 0, .int .i64 0, .slice none 0 0, .slice none 0 0]), 5, 72) := by kernel_rfl

/-- a slice just made with room for n entries -/
theorem made_ent (n k r : Nat) (hk : k < n) (hr : r < 5) : (madeCells #[.int .i64 0, .int .i64 0, .int .i64 0, .slice none 0 0, .slice none 0 0] (n * 5))[k * 5 + r]? = #[Value.int .i64 0, .int .i64 0, .int .i64 0, .slice none 0 0, .slice none 0 0][r]? := by
  have h5 : (k * 5 + r) % 5 = r := by omega
  have hlt : k * 5 + r < n * 5 := by omega
  simp only [madeCells, Array.getElem?_map, Array.getElem?_range, hlt, if_true, Option.map_some]
  have hs : (#[Value.int .i64 0, .int .i64 0, .int .i64 0, .slice none 0 0, .slice none 0 0] : Array Value).size = 5 := rfl
  rw [hs, h5]
  match r, hr with
  | 0, _ => rfl
  | 1, _ => rfl
  | 2, _ => rfl
  | 3, _ => rfl
  | 4, _ => rfl

theorem OwnE.made {lo hi : Nat} (w : World) (n : Nat) (hl : n ≤ maxLen) (hlo : lo ≤ w.heap.size) (hhi : w.heap.size < hi) :
    OwnE (w.alloc (.cells (madeCells #[.int .i64 0, .int .i64 0, .int .i64 0, .slice none 0 0, .slice none 0 0] (n * 5)) 74)) lo hi (.slice (some ⟨w.heap.size, 0, none⟩) n n) (List.replicate n ent0) := by
  refine .inr ⟨w.heap.size, n, _, fun _ => .slice none 0 0, fun _ => .slice none 0 0, by rw [List.length_replicate], hlo, hhi, heap_alloc_new w _, by simp, hl, by rw [size_madeCells], ?_, ?_⟩
  · intro j hj
    rw [List.length_replicate] at hj
    have m := fun r hr => made_ent n j r hj hr
    rw [List.getElem_replicate]
    exact ⟨⟨m 0 (by omega), m 1 (by omega), m 2 (by omega), m 3 (by omega), m 4 (by omega)⟩, Own.nil, Own.nil⟩
  · exact ⟨fun _ _ => .inl rfl, fun _ _ _ _ _ => ⟨.inl rfl, .inl rfl, .inl rfl, .inl rfl⟩⟩

section
variable {ops : Array Oper} {rest : List Oper} {o : Oper} {a : Act} {Q : Exit → Act → World → Prop} {w : World}
theorem wp_make_ents (hgd : o.guard = none) (l k : Operand) (ho : o.op = Op.makeSlice 65 l k) (n : Nat) (hl : a.eval l = .int .i64 (n : Int)) (hk : a.eval k = .int .i64 (n : Int)) (hn : n ≤ 1099511627776)
    (h : ∀ w', OwnE w' w.heap.size w'.heap.size (.slice (some ⟨w.heap.size, 0, none⟩) n n) (List.replicate n ent0) → Below w.heap.size w w' → w'.heap.size = w.heap.size + 1 → wpList Tryz.prog ops Q rest (a.put o.dst (.slice (some ⟨w.heap.size, 0, none⟩) n n)) w') : wpList Tryz.prog ops Q (o :: rest) a w := by
  obtain ⟨i0, hi0, hz0, hz1, hz2⟩ := info_parts entInfo
  refine wpList_plain hgd fun K hK => ?_
  have hr := run_make (P := Tryz.prog) w _ _ i0 _ Tryz.underlying65 hi0 hz0 .i64 .i64 n n (by omega) (Int.le_refl _) (by rw [hz2]; omega) (by omega)
  simp only [Int.toNat_natCast, hz1] at hr
  unfold Oper.wp
  simp [execOp, ho, hl, hk, hr, Result.andThen]
  refine hK _ _ (h _ ?_ ((Below.refl _ _).alloc (Nat.le_refl _) _) (by simp))
  have hm := OwnE.made (lo := w.heap.size) (hi := w.heap.size + 1) w n (by simp [maxLen]; omega) (Nat.le_refl _) (by omega)
  rw [show (Value.agg #[.int .i64 0, .int .i64 0, .int .i64 0, .slice none 0 0, .slice none 0 0]).cells = #[.int .i64 0, .int .i64 0, .int .i64 0, .slice none 0 0, .slice none 0 0] from rfl]
  simpa using hm
end

end Go.Proofs.YtjhbffndiaggmaaGreatDoor

/-
  Words for memory: slices of structs that a call has made, as rows of cells; a row put behind them; entries, and pairs of entries, read out of such rows. No statement of the program stands here.
-/
namespace Go.Proofs.YtjhbffndiaggmaaGreatDoor
open Go.RowKit
set_option linter.unusedVariables false

/-- the slice value v has been made by a call: the rows lie one behind the other in a block of its own, from lo on and below hi (or it is nil) -/
def OwnR (w : World) (lo hi : Nat) (t : TypeId) (sz : Nat) (v : Value) (rows : List (List Value)) : Prop :=
  w.ownsRow lo t sz v rows.length rows.flatten ∧ (∀ r ∈ rows, r.length = sz) ∧ ∀ k, v.ownBlock = some k → k < hi

theorem flat_len {rows : List (List Value)} {sz : Nat} (h : ∀ r ∈ rows, r.length = sz) : rows.flatten.length = rows.length * sz := by
  induction rows with
  | nil => simp
  | cons r rows ih =>
    rw [List.flatten_cons, List.length_append, ih fun x hx => h x (by simp [hx]), h r (by simp), List.length_cons, Nat.add_mul]
    omega
theorem flat_at {rows : List (List Value)} {sz : Nat} (h : ∀ r ∈ rows, r.length = sz) (j i : Nat) (hj : j < rows.length) (hi : i < sz) : rows.flatten[j * sz + i]? = rows[j][i]? := by
  induction rows generalizing j with
  | nil => exact absurd hj (by simp)
  | cons r rows ih =>
    have hr : r.length = sz := h r (by simp)
    rw [List.flatten_cons]
    cases j with
    | zero => simp only [Nat.zero_mul, Nat.zero_add, List.getElem_cons_zero]; rw [List.getElem?_append_left (by omega)]
    | succ j =>
      have hj' : j < rows.length := by simpa using hj
      rw [List.getElem?_append_right (by rw [hr, Nat.add_mul]; omega), hr, show (j + 1) * sz + i - sz = j * sz + i by rw [Nat.add_mul]; omega, ih (fun x hx => h x (by simp [hx])) j hj', List.getElem_cons_succ]

section
variable {w w' : World} {lo hi lo' hi' B sz : Nat} {t : TypeId} {v : Value} {rows : List (List Value)}
theorem OwnR.nil : OwnR w lo hi t sz (.slice none 0 0) [] := ⟨World.ownsRow_nil _ _ _ _, by simp, fun _ h => by simp [Value.ownBlock] at h⟩
theorem OwnR.lt (h : OwnR w lo hi t sz v rows) : ∀ k, v.ownBlock = some k → lo ≤ k ∧ k < hi ∧ k < w.heap.size := fun k hk => ⟨(h.1.lt k hk).1, h.2.2 k hk, (h.1.lt k hk).2⟩
theorem OwnR.mono (h : OwnR w lo hi t sz v rows) (h1 : lo' ≤ lo) (h2 : hi ≤ hi') : OwnR w lo' hi' t sz v rows := by
  refine ⟨⟨h.1.1, ?_⟩, h.2.1, fun k hk => Nat.lt_of_lt_of_le (h.2.2 k hk) h2⟩
  rcases h.1.2 with hn | ⟨g, cap, cur, e, hb, r⟩
  · exact .inl hn
  · exact .inr ⟨g, cap, cur, e, Nat.le_trans h1 hb, r⟩
theorem OwnR.keep (h : OwnR w lo hi t sz v rows) (hk : ∀ k, v.ownBlock = some k → lo ≤ k → k < hi → k < w.heap.size → w'.heap[k]? = w.heap[k]?) : OwnR w' lo hi t sz v rows := by
  refine ⟨⟨h.1.1, ?_⟩, h.2⟩
  rcases h.1.2 with hn | ⟨g, cap, cur, rfl, hb, hg, r⟩
  · exact .inl hn
  · have hl := h.lt g rfl
    exact .inr ⟨g, cap, cur, rfl, hb, (hk g rfl hl.1 hl.2.1 hl.2.2).trans hg, r⟩
theorem OwnR.below (h : OwnR w lo hi t sz v rows) (hb : Below B w w') (hB : hi ≤ B ∨ w.heap.size ≤ B) : OwnR w' lo hi t sz v rows := h.keep fun k _ _ h2 h3 => hb.block k (by omega)
theorem OwnR.st (h : OwnR w lo hi t sz v rows) (hb : Below w.heap.size w w') : OwnR w' lo hi t sz v rows := h.below hb (.inr (Nat.le_refl _))
theorem OwnR.fr (h : OwnR w lo hi t sz v rows) (hf : Fr lo' hi' w w') (hd : hi ≤ lo' ∨ hi' ≤ lo) : OwnR w' lo hi t sz v rows := h.keep fun k _ h1 h2 h3 => hf.block k h3 (by omega)
theorem OwnR.drewN (h : OwnR w lo hi t sz v rows) (k : Nat) : OwnR (w.drewN k) lo hi t sz v rows := h
theorem OwnR.drew (h : OwnR w lo hi t sz v rows) : OwnR w.drew lo hi t sz v rows := h
theorem OwnR.alloc (h : OwnR w lo hi t sz v rows) (o : Obj) : OwnR (w.alloc o) lo hi t sz v rows := h.keep fun k _ _ _ h3 => Below.heap_alloc w o k h3
theorem OwnR.setCell (h : OwnR w lo hi t sz v rows) {p : Addr} (hp : p.block < lo ∨ hi ≤ p.block) (u : Value) : OwnR (w.setCell p u) lo hi t sz v rows := h.keep fun k _ h1 h2 _ => Below.heap_setCell w p u k (by omega)
theorem OwnR.inH (h : OwnR w lo hi t sz v rows) : OwnR w lo w.heap.size t sz v rows := ⟨h.1, h.2.1, fun k hk => (h.lt k hk).2.2⟩
/-- its parts, where it holds something -/
theorem OwnR.cells (h : OwnR w lo hi t sz v rows) : ∃ A c, v = .slice A rows.length c ∧ rows.length ≤ c ∧ c ≤ maxLen ∧ (A = none → c = 0) ∧ (0 < rows.length → ∃ g, A = some ⟨g, 0, none⟩ ∧ lo ≤ g ∧ g < hi ∧ g < w.heap.size ∧ (∀ j, w.frozen? ⟨g, j, none⟩ = false) ∧ ∀ j (hj : j < rows.length) i, i < sz → w.cell? ⟨g, j * sz + i, none⟩ = rows[j][i]?) := by
  rcases h.1.2 with ⟨rfl, hn⟩ | ⟨g, cap, cur, rfl, hb, hg, hnc, hcm, hsz, htk⟩
  · exact ⟨none, 0, by rw [hn], by omega, by simp [maxLen], fun _ => rfl, fun hp => by omega⟩
  · have hl := h.lt g rfl
    refine ⟨_, cap, rfl, hnc, hcm, fun h => (by cases h), fun hp => ⟨g, rfl, hb, hl.2.1, hl.2.2, fun j => by simp [World.frozen?, hg], fun j hj i hi' => ?_⟩⟩
    rw [cell_of_row w g _ cur _ _ hg, ← flat_at h.2.1 j i hj hi', ← htk, List.getElem?_take]
    have : j * sz + i < rows.length * sz := by
      have h1 : (j + 1) * sz ≤ rows.length * sz := Nat.mul_le_mul_right _ hj
      rw [Nat.add_mul] at h1
      omega
    rw [if_pos this]
    simp
theorem OwnR.of_row (h : w.ownsRow lo t sz v rows.length rows.flatten) (h2 : ∀ r ∈ rows, r.length = sz) (hs : w.heap.size ≤ hi) : OwnR w lo hi t sz v rows :=
  ⟨h, h2, fun k hk => Nat.lt_of_lt_of_le (h.lt k hk).2 hs⟩
/-- a slice literal of one struct, just made -/
theorem OwnR.one (w : World) (t : TypeId) (cs : Array Value) (hlo : lo ≤ w.heap.size) (hhi : w.heap.size < hi) (hs : cs.size = sz) : OwnR (w.alloc (.cells cs t)) lo hi t sz (.slice (some ⟨w.heap.size, 0, none⟩) 1 1) [cs.toList] := by
  refine ⟨⟨by simp [hs], .inr ⟨w.heap.size, 1, cs, rfl, hlo, heap_alloc_new w _, Nat.le_refl _, by simp [maxLen], by simp [hs], ?_⟩⟩, by simp [hs], fun k hk => ?_⟩
  · simp only [List.flatten_cons, List.flatten_nil, List.append_nil]
    exact List.take_of_length_le (by simp [hs])
  · simp [Value.ownBlock] at hk; omega
end

section
variable {ops : Array Oper} {rest : List Oper} {o : Oper} {a : Act} {Q : Exit → Act → World → Prop} {w : World} {lo hi sz : Nat} {v : Value} {rows : List (List Value)} {t ts : TypeId}
/-- 'append(v, x..)' : the rows of a slice in a block of its own behind the rows of v -/
theorem wp_append_rows (hgd : o.guard = none) (s x : Operand) {by_ : Nat} {z : Value} {news : List (List Value)} {m c : Nat} (ho : o.op = .call { callee := .builtin .append, args := #[s, x], argTypes := #[ts, ts] })
    (ht : Tryz.prog.underlying ts = some (.slice t)) (hin : (Tryz.prog.info? t).map (fun i => (i.zero, i.size, i.bytes)) = some (some z, sz, by_)) (hz : z.cells.size = sz) (hs0 : 0 < sz)
    (hs : a.eval s = v) (hown : OwnR w lo hi t sz v rows) (hx : a.eval x = .slice (some ⟨m, 0, none⟩) news.length c) (hcell : ∀ j (hj : j < news.length) i, i < sz → w.cell? ⟨m, j * sz + i, none⟩ = news[j][i]?) (hnl : ∀ r ∈ news, r.length = sz) (h1 : ∀ r ∈ news, ∀ u ∈ r, u.oneCell' = true)
    (hlen : rows.length + news.length ≤ 1073741824) (hby : by_ ≤ 1000) (hlo : lo ≤ w.heap.size)
    (h : ∀ v' w', OwnR w' lo w'.heap.size t sz v' (rows ++ news) → w.grownBy w' v.ownBlock → Below lo w w' → (v'.ownBlock = v.ownBlock ∨ v'.ownBlock = some w.heap.size) → wpList Tryz.prog ops Q rest (a.put o.dst v') w') : wpList Tryz.prog ops Q (o :: rest) a w :=
  wpList_plain hgd fun K hK => by
    obtain ⟨i0, hi0, hz0, hz1, hz2⟩ := info_parts hin
    have hadd : ∀ j, (⟨m, 0, none⟩ : Addr).add j = ⟨m, j, none⟩ := fun j => by unfold Addr.add; split <;> simp_all
    have hnews : ∀ j u, news.flatten[j]? = some u → w.cell? ((⟨m, 0, none⟩ : Addr).add j) = some u := by
      intro j u hu
      have hj : j < news.length * sz := by have := (List.getElem?_eq_some_iff.1 hu).1; rwa [flat_len hnl] at this
      have e : j = j / sz * sz + j % sz := by rw [Nat.mul_comm]; exact (Nat.div_add_mod j sz).symm
      have hq : j / sz < news.length := (Nat.div_lt_iff_lt_mul hs0).2 hj
      have hm : j % sz < sz := Nat.mod_lt _ hs0
      rw [hadd]
      rw [e] at hu ⊢
      rw [flat_at hnl _ _ hq hm] at hu
      rw [hcell _ hq _ hm, hu]
    have hone : ∀ u ∈ news.flatten, u.oneCell' = true := fun u hu => by
      obtain ⟨r, hr, hur⟩ := List.mem_flatten.1 hu
      exact h1 r hr u hur
    have hby2 : (rows.length + news.length) * by_ ≤ 140737488355328 := by
      have : (rows.length + news.length) * by_ ≤ 1073741824 * 1000 := Nat.mul_le_mul hlen hby
      omega
    obtain ⟨v', w', hrun, h2, h3, _, h5⟩ := run_append_own_at (P := Tryz.prog) w lo ts o.type t i0 z sz by_ ht hi0 hz0 hz1 hz2 hz hs0 v rows.length _ hown.1 ⟨m, 0, none⟩ news.length c news.flatten (flat_len hnl) hnews hone (by simp only [maxLen]; omega) hby2 hlo
    have hO : OwnR w' lo w'.heap.size t sz v' (rows ++ news) := OwnR.of_row (by rw [List.length_append, List.flatten_append]; exact h2) (fun r hr => by
      rcases List.mem_append.1 hr with hr | hr
      · exact hown.2.1 r hr
      · exact hnl r hr) (Nat.le_refl _)
    unfold Oper.wp execOp
    simp only [ho, resolve, invoke, builtin, Sem.run_bind, Sem.run_pure, Result.andThen_ok, List.map_toArray, List.map_cons, List.map_nil, hs, hx, hrun]
    exact hK _ _ (h v' w' hO h3 ((Below.refl lo w).grown h3 hlo (fun k hk => (hown.lt k hk).1)) h5)
end

/-! ### rows that read as entries -/
/-- the row r is entry e; its slices read in the world w -/
def EntRow (w : World) (lo hi : Nat) (e : Ent) (r : List Value) : Prop :=
  ∃ A1 c1 A2 c2, r = [.int .i64 e.time, .int .i64 e.msg, .int .i64 e.part, .slice A1 e.seen.length c1, .slice A2 e.shown.length c2] ∧ Rd w lo hi A1 e.seen ∧ Rd w lo hi A2 e.shown
theorem EntRow.len {w : World} {lo hi : Nat} {e : Ent} {r : List Value} (h : EntRow w lo hi e r) : r.length = 5 := by
  obtain ⟨A1, c1, A2, c2, rfl, _⟩ := h; rfl
theorem EntRow.one {w : World} {lo hi : Nat} {e : Ent} {r : List Value} (h : EntRow w lo hi e r) : ∀ u ∈ r, u.oneCell' = true := by
  obtain ⟨A1, c1, A2, c2, rfl, _⟩ := h
  intro u hu
  simp at hu
  rcases hu with rfl | rfl | rfl | rfl | rfl <;> rfl
theorem EntRow.keep {w w' : World} {lo hi : Nat} {e : Ent} {r : List Value} (h : EntRow w lo hi e r) (hk : ∀ b o, lo ≤ b → b < hi → b < w.heap.size → w'.cell? ⟨b, o, none⟩ = w.cell? ⟨b, o, none⟩) : EntRow w' lo hi e r := by
  obtain ⟨A1, c1, A2, c2, rfl, r1, r2⟩ := h
  exact ⟨A1, c1, A2, c2, rfl, r1.keep hk, r2.keep hk⟩
theorem EntRow.mono {w : World} {lo hi lo' hi' : Nat} {e : Ent} {r : List Value} (h : EntRow w lo hi e r) (h1 : lo' ≤ lo) (h2 : hi ≤ hi') : EntRow w lo' hi' e r := by
  obtain ⟨A1, c1, A2, c2, rfl, r1, r2⟩ := h
  exact ⟨A1, c1, A2, c2, rfl, r1.mono h1 h2, r2.mono h1 h2⟩
theorem EntRow.std {w : World} {lo hi : Nat} {e : Ent} {r : List Value} (h : EntRow w lo hi e r) : EntRow w 0 w.heap.size e r := by
  obtain ⟨A1, c1, A2, c2, rfl, r1, r2⟩ := h
  exact ⟨A1, c1, A2, c2, rfl, r1.std, r2.std⟩
/-- a row in memory is an entry -/
theorem EntRow.at_ {w : World} {lo hi b o : Nat} {e : Ent} {r : List Value} (h : EntRow w lo hi e r) (hc : ∀ i, i < 5 → w.cell? ⟨b, o + i, none⟩ = r[i]?) : EntAt w lo hi b o e := by
  obtain ⟨A1, c1, A2, c2, rfl, r1, r2⟩ := h
  exact ⟨A1, c1, A2, c2, by simpa using hc 0 (by omega), by simpa using hc 1 (by omega), by simpa using hc 2 (by omega), by simpa using hc 3 (by omega), by simpa using hc 4 (by omega), r1, r2⟩

/-- rows that are the entries es, one by one -/
def EntRows (w : World) (lo hi : Nat) (es : List Ent) (rows : List (List Value)) : Prop := rows.length = es.length ∧ ∀ j (h : j < es.length) (h' : j < rows.length), EntRow w lo hi es[j] rows[j]
theorem EntRows.nil {w : World} {lo hi : Nat} : EntRows w lo hi [] [] := ⟨rfl, fun j h => absurd h (by simp)⟩
theorem EntRows.snoc {w : World} {lo hi : Nat} {es : List Ent} {rows : List (List Value)} {e : Ent} {r : List Value} (h : EntRows w lo hi es rows) (hr : EntRow w lo hi e r) : EntRows w lo hi (es ++ [e]) (rows ++ [r]) := by
  refine ⟨by simp [h.1], fun j h1 h2 => ?_⟩
  rw [List.getElem_append, List.getElem_append]
  have := h.1
  by_cases hj : j < es.length
  · rw [dif_pos hj, dif_pos (by omega)]; exact h.2 j hj (by omega)
  · rw [dif_neg hj, dif_neg (by omega)]; simpa using hr
theorem EntRows.append {w : World} {lo hi : Nat} {es es2 : List Ent} {rows rows2 : List (List Value)} (h : EntRows w lo hi es rows) (h2 : EntRows w lo hi es2 rows2) : EntRows w lo hi (es ++ es2) (rows ++ rows2) := by
  refine ⟨by simp [h.1, h2.1], fun j h3 h4 => ?_⟩
  rw [List.getElem_append, List.getElem_append]
  have e1 := h.1
  have e2 := h2.1
  simp at h3 h4
  by_cases hj : j < es.length
  · rw [dif_pos hj, dif_pos (by omega)]; exact h.2 j hj (by omega)
  · rw [dif_neg hj, dif_neg (by omega)]
    have := h2.2 (j - es.length) (by omega) (by omega)
    simp only [e1]
    exact this
theorem EntRows.keep {w w' : World} {lo hi : Nat} {es : List Ent} {rows : List (List Value)} (h : EntRows w lo hi es rows) (hk : ∀ b o, lo ≤ b → b < hi → b < w.heap.size → w'.cell? ⟨b, o, none⟩ = w.cell? ⟨b, o, none⟩) : EntRows w' lo hi es rows :=
  ⟨h.1, fun j h1 h2 => (h.2 j h1 h2).keep hk⟩
theorem EntRows.mono {w : World} {lo hi lo' hi' : Nat} {es : List Ent} {rows : List (List Value)} (h : EntRows w lo hi es rows) (h1 : lo' ≤ lo) (h2 : hi ≤ hi') : EntRows w lo' hi' es rows :=
  ⟨h.1, fun j h3 h4 => (h.2 j h3 h4).mono h1 h2⟩
theorem EntRows.std {w : World} {lo hi : Nat} {es : List Ent} {rows : List (List Value)} (h : EntRows w lo hi es rows) : EntRows w 0 w.heap.size es rows := ⟨h.1, fun j h3 h4 => (h.2 j h3 h4).std⟩
theorem EntRows.st {w w' : World} {lo hi : Nat} {es : List Ent} {rows : List (List Value)} (h : EntRows w lo hi es rows) (hb : Below w.heap.size w w') : EntRows w' lo hi es rows := h.keep fun b o _ _ h3 => hb.cell (p := ⟨b, o, none⟩) h3
theorem EntRows.below {w w' : World} {lo hi B : Nat} {es : List Ent} {rows : List (List Value)} (h : EntRows w lo hi es rows) (hb : Below B w w') (hB : hi ≤ B) : EntRows w' lo hi es rows := h.keep fun b o _ h2 _ => hb.cell (p := ⟨b, o, none⟩) (by show b < B; omega)
theorem EntRows.mem {w : World} {lo hi : Nat} {es : List Ent} {rows : List (List Value)} (h : EntRows w lo hi es rows) : ∀ r ∈ rows, r.length = 5 := fun r hr => by
  obtain ⟨j, hj, rfl⟩ := List.getElem_of_mem hr
  exact (h.2 j (by rw [← h.1]; exact hj) hj).len
theorem EntRows.oneC {w : World} {lo hi : Nat} {es : List Ent} {rows : List (List Value)} (h : EntRows w lo hi es rows) : ∀ r ∈ rows, ∀ u ∈ r, u.oneCell' = true := fun r hr => by
  obtain ⟨j, hj, rfl⟩ := List.getElem_of_mem hr
  exact (h.2 j (by rw [← h.1]; exact hj) hj).one
/-- a made slice of rows that are entries reads as the entries -/
theorem OwnR.rdE {w : World} {lo hi l h : Nat} {A : Option Addr} {n c : Nat} {es : List Ent} {rows : List (List Value)} (ho : OwnR w lo hi 74 5 (.slice A n c) rows) (hr : EntRows w l h es rows) : RdE w 0 w.heap.size A es ∧ n = es.length ∧ n ≤ c ∧ c ≤ maxLen ∧ (A = none → c = 0) := by
  obtain ⟨A', c', he, hc1, hc2, hn, hx⟩ := ho.cells
  injection he with e1 e2 e3
  subst e1 e2 e3
  refine ⟨fun hp => ?_, hr.1, hc1, hc2, hn⟩
  obtain ⟨g, rfl, g1, g2, g3, _, hc⟩ := hx (by rw [hr.1]; exact hp)
  exact ⟨g, 0, rfl, Nat.zero_le _, g3, fun j hj => (((hr.2 j hj (by rw [hr.1]; exact hj)).at_ (b := g) (o := j * 5) fun i hi' => hc j (by rw [hr.1]; exact hj) i hi').std) |> fun h => by rwa [Nat.zero_add]⟩
/-- an entry that is read is a row -/
theorem EntAt.row {w : World} {lo hi b o : Nat} {e : Ent} (h : EntAt w lo hi b o e) : ∃ r, EntRow w lo hi e r ∧ ∀ i, i < 5 → w.cell? ⟨b, o + i, none⟩ = r[i]? := by
  obtain ⟨A1, c1, A2, c2, x0, x1, x2, x3, x4, r1, r2⟩ := h
  refine ⟨_, ⟨A1, c1, A2, c2, rfl, r1, r2⟩, fun i hi' => ?_⟩
  match i, hi' with
  | 0, _ => simpa using x0
  | 1, _ => simpa using x1
  | 2, _ => simpa using x2
  | 3, _ => simpa using x3
  | 4, _ => simpa using x4
end Go.Proofs.YtjhbffndiaggmaaGreatDoor

/-
  Contracts on key books: the statements' helpers (size, copy, equality, marks), and validity in the program and the reference. The conditions are bounds on a slice's length.
-/
namespace Go.Proofs.YtjhbffndiaggmaaGreatDoor
open Go.RowKit Go.ChangeShapes Go.WideShapes
set_option linter.unusedVariables false

/-- a key book's value: key, pages, and the slice of used ones -/
def kbv (key pages : Int) (A : Option Addr) (n c : Nat) : Value := .agg #[.int .i64 key, .int .i64 pages, .slice A n c]

def eqKb (k1 p1 : Int) (z1 : List Int) (k2 p2 : Int) (z2 : List Int) : Bool := decide (k1 = k2) && (decide (p1 = p2) && eqL z1 z2)
theorem eqKb_self (k p : Int) (z : List Int) : eqKb k p z k p z = true := by simp [eqKb, eqL]

set_option maxHeartbeats 1000000 in
theorem kyGood_any (key pages : Int) (zs : List Int) (A : Option Addr) (c : Nat) {l h : Nat} (w : World) (hr : Rd w l h A zs) (hl : zs.length ≤ 9223372036854775806) :
    Calls Tryz.prog 74 #[.agg #[.int .i64 key, .int .i64 pages, .slice A zs.length c]] w fun e w' => e = .returned (.bool (kbB key pages zs)) ∧ Below w.heap.size w w' := by
  have hbel : ∀ o : Obj, Below w.heap.size w (w.alloc o) := fun o => (Below.refl _ _).alloc (Nat.le_refl _) _
  cases h1 : inB key 0 1000000000 with
  | true =>
    have q1 := Lib.hid h1
    cases h2 : inB pages 1 60 with
    | true =>
      have q2 := Lib.hid h2
      have hp := inB_iff.1 h2
      go_enter Tryz.func74, Tryz.ntmps74
      go_wp2_with (first
        | (go_at_call 104; refine (l1In_any _ _ _ _).mono ?_; rintro e w' ⟨rfl, rfl⟩)
        | (go_at_call 144; refine (l1Rising_any zs A c _ _ _ (hr.alloc _) hl).mono ?_; rintro e w' ⟨rfl, rfl⟩))
      go_ret
      exact ⟨by simp [kbB, q1.out, q2.out], hbel _⟩
    | false =>
      have q2 := Lib.hid h2
      go_enter Tryz.func74, Tryz.ntmps74
      go_wp2_with (first
        | (go_at_call 104; refine (l1In_any _ _ _ _).mono ?_; rintro e w' ⟨rfl, rfl⟩))
      go_ret
      exact ⟨by simp [kbB, q1.out, q2.out], hbel _⟩
  | false =>
    have q1 := Lib.hid h1
    go_enter Tryz.func74, Tryz.ntmps74
    go_wp2_with (first
      | (go_at_call 104; refine (l1In_any _ _ _ _).mono ?_; rintro e w' ⟨rfl, rfl⟩))
    go_ret
    exact ⟨by simp [kbB, q1.out], hbel _⟩
set_option maxHeartbeats 1000000 in
theorem iIsKeyBook_any (key pages : Int) (zs : List Int) (A : Option Addr) (c : Nat) {l h : Nat} (w : World) (hr : Rd w l h A zs) (hl : zs.length ≤ 9223372036854775806) :
    Calls Tryz.prog 15 #[.agg #[.int .i64 key, .int .i64 pages, .slice A zs.length c]] w fun e w' => e = .returned (.bool (kbB key pages zs)) ∧ Below w.heap.size w w' := by
  have hbel : ∀ o : Obj, Below w.heap.size w (w.alloc o) := fun o => (Below.refl _ _).alloc (Nat.le_refl _) _
  cases h1 : inB key 0 1000000000 with
  | true =>
    have q1 := Lib.hid h1
    cases h2 : inB pages 1 60 with
    | true =>
      have q2 := Lib.hid h2
      have hp := inB_iff.1 h2
      cases h3 : allB zs 0 (pages - 1) with
      | true =>
        have q3 := Lib.hid h3
        go_enter Tryz.func15, Tryz.ntmps15
        go_wp2_with (first
          | (go_at_call 79; refine (within_any _ _ _ _).mono ?_; rintro e w' ⟨rfl, rfl⟩)
          | (go_at_call 80; refine (allWithin_any zs A c _ _ _ (hr.alloc _) (by omega)).mono ?_; rintro e w' ⟨rfl, rfl⟩)
          | (go_at_call 81; refine (increasing_any zs A c _ (hr.alloc _) hl).mono ?_; rintro e w' ⟨rfl, n, rfl⟩))
        go_ret
        exact ⟨by simp [kbB, risinB, q1.out, q2.out, q3.out], below_drewN (hbel _) _⟩
      | false =>
        have q3 := Lib.hid h3
        go_enter Tryz.func15, Tryz.ntmps15
        go_wp2_with (first
          | (go_at_call 79; refine (within_any _ _ _ _).mono ?_; rintro e w' ⟨rfl, rfl⟩)
          | (go_at_call 80; refine (allWithin_any zs A c _ _ _ (hr.alloc _) (by omega)).mono ?_; rintro e w' ⟨rfl, rfl⟩))
        go_ret
        exact ⟨by simp [kbB, risinB, q1.out, q2.out, q3.out], hbel _⟩
    | false =>
      have q2 := Lib.hid h2
      go_enter Tryz.func15, Tryz.ntmps15
      go_wp2_with (first
        | (go_at_call 79; refine (within_any _ _ _ _).mono ?_; rintro e w' ⟨rfl, rfl⟩))
      go_ret
      exact ⟨by simp [kbB, q1.out, q2.out], hbel _⟩
  | false =>
    have q1 := Lib.hid h1
    go_enter Tryz.func15, Tryz.ntmps15
    go_wp2_with (first
      | (go_at_call 79; refine (within_any _ _ _ _).mono ?_; rintro e w' ⟨rfl, rfl⟩))
    go_ret
    exact ⟨by simp [kbB, q1.out], hbel _⟩

end Go.Proofs.YtjhbffndiaggmaaGreatDoor
