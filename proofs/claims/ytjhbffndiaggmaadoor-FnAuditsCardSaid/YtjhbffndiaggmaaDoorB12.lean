/-
  Contracts and plain laws that the walk uses, several texts in one. The conditions are named ahead of each.
-/
import Derived.Test.YtjhbffndiaggmaaDoorZCur
import Derived.Test.YtjhbffndiaggmaaDoorB11
import Derived.Test.YtjhbffndiaggmaaDoorB1
import Derived.Deep.RegionLaw

/-
  Contracts of the drawn key books: keyBook and keyPageOf. The conditions are bounds on how often the cursor has been asked.
-/
namespace Go.Proofs.YtjhbffndiaggmaaDoor
open Go.RowKit Go.ChangeShapes Go.WideShapes
set_option linter.unusedVariables false
set_option linter.unusedSimpArgs false

section
variable {w w1 w2 : World} {lo hi B : Nat}
theorem Fr.then_below (h : Fr lo hi w w1) (hb : Below B w1 w2) (hB : w.heap.size ≤ B) : Fr lo hi w w2 :=
  ⟨hb.os.trans h.os, hb.tape.trans h.tape, hb.output.trans h.output, Nat.le_trans h.size hb.size, fun k hk hd => (hb.block k (by omega)).trans (h.block k hk hd)⟩
theorem Fr.setNew (h : Fr lo hi w w1) {p : Addr} (hp : w.heap.size ≤ p.block) (u : Value) : Fr lo hi w (w1.setCell p u) :=
  h.then_below ((Below.refl _ _).setCell hp u) (Nat.le_refl _)
theorem Fr.below_of (h : Fr lo hi w w1) (hB : B ≤ lo) (hs : B ≤ w.heap.size) : Below B w w1 := h.below hB hs
end
end Go.Proofs.YtjhbffndiaggmaaDoor

/-
  Contracts of the drawn key books' draws: keyPageOf, and the choices for pages. The conditions are bounds on how often the cursor has been asked.
-/
namespace Go.Proofs.YtjhbffndiaggmaaDoor
open Go.RowKit Go.ChangeShapes Go.WideShapes
set_option linter.unusedVariables false
set_option linter.unusedSimpArgs false

theorem l1Most_w (a b : Int) (w : World) :
    Calls Tryd.prog 54 #[.int .i64 a, .int .i64 b] w fun e w' => ∃ x : Int, e = .returned (.int .i64 x) ∧ (x = a ∨ x = b) ∧ w = w' := by
  by_cases h : b < a
  · go_enter Tryd.func54, Tryd.ntmps54
    go_wp2_with fail
    go_ret
    exact ⟨a, rfl, .inl rfl, rfl⟩
  · go_enter Tryd.func54, Tryd.ntmps54
    go_wp2_with fail
    go_ret
    exact ⟨b, rfl, .inr rfl, rfl⟩
section
variable {w w' : World} {g : Nat}
theorem CodeAt.up {A : Option Addr} {n g' : Nat} (h : CodeAt w g A n) (hg : g ≤ g') : CodeAt w g' A n := fun hp => by
  obtain ⟨b, off, e, hb, hc⟩ := h hp
  exact ⟨b, off, e, by omega, hc⟩
theorem CodeAt.st {w w' : World} {A : Option Addr} {n : Nat} (h : CodeAt w w.heap.size A n) (hb : Below w.heap.size w w') : CodeAt w' w'.heap.size A n := (h.keep fun b o _ h2 => World.cell?_of_block (w := w) (hb.block b h2)).up hb.size
theorem CodeAt.alloc {A : Option Addr} {n : Nat} (h : CodeAt w g A n) (o : Obj) : CodeAt (w.alloc o) g A n := h.keep fun b o' _ h2 => World.cell?_of_block (w := w) (Below.heap_alloc w o b h2)
theorem Cur.fresh {A : Option Addr} {n c : Nat} (h : CodeAt w w.heap.size A n) (hn : n ≤ 9223372036854775807) (hc : n ≤ c) : Cur (w.alloc (.cells #[.slice A n c, .int .i64 0, .int .u64 0] 57)) w.heap.size 0 :=
  ⟨A, n, c, 0, 0, Bk.new w _ _, ⟨Int.le_refl _, Int.le_refl _⟩, hn, hc, h.alloc _⟩
end
end Go.Proofs.YtjhbffndiaggmaaDoor
