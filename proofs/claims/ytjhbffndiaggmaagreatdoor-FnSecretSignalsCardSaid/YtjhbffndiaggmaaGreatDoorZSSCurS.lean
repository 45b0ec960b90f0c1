/-
  Contracts of the drawn secrets. The conditions are bounds on how often the cursor has been asked.
-/
import Derived.Test.YtjhbffndiaggmaaGreatDoorZSSCurSg
import Derived.Test.YtjhbffndiaggmaaGreatDoorBSS31
import Derived.Test.YtjhbffndiaggmaaGreatDoorZSSCurL
import Derived.Deep.RegionLaw
namespace Go.Proofs.YtjhbffndiaggmaaGreatDoor
open Go.RowKit Go.ChangeShapes Go.WideShapes
set_option linter.unusedVariables false
set_option linter.unusedSimpArgs false

theorem kp_alloc {w : World} {o : Obj} {p : Addr} {v : Value} (hc : w.cell? p = some v) : (w.alloc o).cell? p = some v := (World.cell?_alloc_lt w o p (World.block_lt_of_cell? w p hc)).trans hc
theorem kp_allocd {w : World} {o : Obj} {p : Addr} {v : Value} (hc : w.drew.cell? p = some v) : (w.alloc o).drew.cell? p = some v := kp_alloc (w := w) hc
theorem kp_set {w : World} {p q : Addr} {u v : Value} (hc : w.cell? p = some v) (hne : q.block ≠ p.block) : (w.setCell q u).cell? p = some v := (World.cell?_setCell_other w q p u (fun e => hne (by rw [e]))).trans hc
theorem hm_small (key pages : Int) (us ss : List Int) : (hmP key pages us ss).length ≤ 60 ∧ (hmS key pages us ss).length ≤ 60 := by
  cases h : hmB key pages us ss with
  | false => obtain ⟨-, -, -, e4, e5⟩ := hm_no h; rw [e4, e5]; simp
  | true =>
    obtain ⟨-, -, -, e4, e5⟩ := hm_yes h
    unfold hmB at h
    simp only [Bool.and_eq_true, decide_eq_true_eq] at h
    obtain ⟨-, -, f2, f3, -⟩ := hm_facts h.1 h.2.1 h.2.2
    rw [e4, e5]
    refine ⟨f2, ?_⟩
    rw [shL_len _ _ _ (by rw [numsL_len]; exact f3)]
    exact h.1
/-- all blocks but two are as they were -/
structure Kp2 (G5 G6 : Nat) (w w' : World) : Prop where
  os : w'.os = w.os
  tape : w'.tape = w.tape
  output : w'.output = w.output
  size : w.heap.size ≤ w'.heap.size
  block : ∀ k, k < w.heap.size → k ≠ G5 → k ≠ G6 → w'.heap[k]? = w.heap[k]?
section
variable {w w' w0 : World} {G5 G6 g N l1 h1 h2 : Nat} {P S : List Int} {v1 v2 : Value}
theorem Kp2.refl : Kp2 G5 G6 w w := ⟨rfl, rfl, rfl, Nat.le_refl _, fun _ _ _ _ => rfl⟩
theorem Kp2.set5 (h : Kp2 G5 G6 w w') (i : Nat) (u : Value) : Kp2 G5 G6 w (w'.setCell ⟨G5, i, none⟩ u) :=
  ⟨h.os, h.tape, h.output, by rw [size_setCell]; exact h.size, fun k h1 h2 h3 => (Below.heap_setCell w' ⟨G5, i, none⟩ u k h2).trans (h.block k h1 h2 h3)⟩
theorem Kp2.set6 (h : Kp2 G5 G6 w w') (i : Nat) (u : Value) : Kp2 G5 G6 w (w'.setCell ⟨G6, i, none⟩ u) :=
  ⟨h.os, h.tape, h.output, by rw [size_setCell]; exact h.size, fun k h1 h2 h3 => (Below.heap_setCell w' ⟨G6, i, none⟩ u k h3).trans (h.block k h1 h2 h3)⟩
theorem Kp2.alloc (h : Kp2 G5 G6 w w') (o : Obj) : Kp2 G5 G6 w (w'.alloc o) :=
  ⟨h.os, h.tape, h.output, by have := h.size; simp; omega, fun k h1 h2 h3 => (Below.heap_alloc w' o k (Nat.lt_of_lt_of_le h1 h.size)).trans (h.block k h1 h2 h3)⟩
theorem Bk.newAt {n : Nat} {t : TypeId} {cs : Array Value} (h : w.heap.size = n) : Bk (w.alloc (.cells cs t)) n t cs := h ▸ Bk.new w t cs
theorem sec_end {t : TypeId} {cs : Array Value} (hk : Kp2 G5 G6 w w') (h6 : Bk w' G6 t cs) (o5 : Own w l1 h1 v1 P) (o6 : Own w h1 h2 v2 S) (hc : Cur w g N) (hF : Fr g (g + 1) w0 w)
    (d5 : G5 < l1 ∨ h2 ≤ G5) (d6 : G6 < l1 ∨ h2 ≤ G6) (q1 : l1 ≤ h1) (q2 : h1 ≤ h2) (q3 : h2 ≤ w.heap.size) (q4 : g < G5) (q5 : g < G6) (q6 : w0.heap.size ≤ G5) (q7 : w0.heap.size ≤ G6) :
    Hid (Bk w' G6 t cs ∧ Own w' l1 h1 v1 P ∧ Own w' h1 h2 v2 S ∧ Cur w' g N ∧ Fr g (g + 1) w0 w' ∧ h2 ≤ w'.heap.size) :=
  Lib.hid ⟨h6, o5.keep fun k _ a1 a2 a3 => hk.block k a3 (by omega) (by omega), o6.keep fun k _ a1 a2 a3 => hk.block k a3 (by omega) (by omega), hc.keep fun b a1 a2 => hk.block b a2 (by omega) (by omega),
    ⟨hk.os.trans hF.os, hk.tape.trans hF.tape, hk.output.trans hF.output, Nat.le_trans hF.size hk.size, fun k a1 a2 => (hk.block k (Nat.lt_of_lt_of_le a1 hF.size) (by omega) (by omega)).trans (hF.block k a1 a2)⟩, Nat.le_trans q3 hk.size⟩
theorem sec_f1 (a0 a1 a2 : Value) (s0 s1 : Value) (o5 : Own w l1 h1 v1 P) (o6 : Own w h1 w.heap.size v2 S) (hc : Cur w g N) (hF : Fr g (g + 1) w0 w) (q1 : l1 ≤ h1) (q2 : h1 ≤ w.heap.size) (q4 : g < w.heap.size) (q6 : w0.heap.size ≤ w.heap.size) :
    Hid (Bk ((w.alloc (.cells #[a0, a1, a2] 26)).alloc (.cells #[s0, s1] 53)) (w.heap.size + 1) 53 #[s0, s1] ∧ Own ((w.alloc (.cells #[a0, a1, a2] 26)).alloc (.cells #[s0, s1] 53)) l1 h1 v1 P ∧ Own ((w.alloc (.cells #[a0, a1, a2] 26)).alloc (.cells #[s0, s1] 53)) h1 w.heap.size v2 S ∧ Cur ((w.alloc (.cells #[a0, a1, a2] 26)).alloc (.cells #[s0, s1] 53)) g N ∧ Fr g (g + 1) w0 ((w.alloc (.cells #[a0, a1, a2] 26)).alloc (.cells #[s0, s1] 53)) ∧ w.heap.size ≤ ((w.alloc (.cells #[a0, a1, a2] 26)).alloc (.cells #[s0, s1] 53)).heap.size) :=
  sec_end (G5 := w.heap.size) (G6 := w.heap.size + 1) (Kp2.refl.alloc (.cells #[a0, a1, a2] 26) |>.alloc (.cells #[s0, s1] 53)) (Bk.new2 w _ 53 #[s0, s1]) o5 o6 hc hF (by omega) (by omega) q1 q2 (by omega) (by omega) (by omega) (by omega) (by omega)
theorem sec_f2 (a0 a1 a2 : Value) (s0 s1 : Value) (o5 : Own w l1 h1 v1 P) (o6 : Own w h1 w.heap.size v2 S) (hc : Cur w g N) (hF : Fr g (g + 1) w0 w) (q1 : l1 ≤ h1) (q2 : h1 ≤ w.heap.size) (q4 : g < w.heap.size) (q6 : w0.heap.size ≤ w.heap.size) :
    Hid (Bk ((w.alloc (.cells #[s0, s1] 53)).alloc (.cells #[a0, a1, a2] 26)) w.heap.size 53 #[s0, s1] ∧ Own ((w.alloc (.cells #[s0, s1] 53)).alloc (.cells #[a0, a1, a2] 26)) l1 h1 v1 P ∧ Own ((w.alloc (.cells #[s0, s1] 53)).alloc (.cells #[a0, a1, a2] 26)) h1 w.heap.size v2 S ∧ Cur ((w.alloc (.cells #[s0, s1] 53)).alloc (.cells #[a0, a1, a2] 26)) g N ∧ Fr g (g + 1) w0 ((w.alloc (.cells #[s0, s1] 53)).alloc (.cells #[a0, a1, a2] 26)) ∧ w.heap.size ≤ ((w.alloc (.cells #[s0, s1] 53)).alloc (.cells #[a0, a1, a2] 26)).heap.size) :=
  sec_end (G5 := w.heap.size + 1) (G6 := w.heap.size) (Kp2.refl.alloc (.cells #[s0, s1] 53) |>.alloc (.cells #[a0, a1, a2] 26)) ((Bk.new w 53 #[s0, s1]).alloc _) o5 o6 hc hF (by omega) (by omega) q1 q2 (by omega) (by omega) (by omega) (by omega) (by omega)
theorem sec_f3 {cs : Array Value} (b5 : Bk w G5 26 cs) (a0 a1 a2 : Value) (s0 s1 : Value) (o5 : Own w l1 h1 v1 P) (o6 : Own w h1 w.heap.size v2 S) (hc : Cur w g N) (hF : Fr g (g + 1) w0 w) (d5 : G5 < l1) (q1 : l1 ≤ h1) (q2 : h1 ≤ w.heap.size) (q4 : g < G5) (q5 : g < w.heap.size) (q6 : w0.heap.size ≤ G5) (q7 : w0.heap.size ≤ w.heap.size) :
    Hid (Bk ((((w.setCell ⟨G5, 0, none⟩ a0).setCell ⟨G5, 1, none⟩ a1).setCell ⟨G5, 2, none⟩ a2).alloc (.cells #[s0, s1] 53)) w.heap.size 53 #[s0, s1] ∧ Own ((((w.setCell ⟨G5, 0, none⟩ a0).setCell ⟨G5, 1, none⟩ a1).setCell ⟨G5, 2, none⟩ a2).alloc (.cells #[s0, s1] 53)) l1 h1 v1 P ∧ Own ((((w.setCell ⟨G5, 0, none⟩ a0).setCell ⟨G5, 1, none⟩ a1).setCell ⟨G5, 2, none⟩ a2).alloc (.cells #[s0, s1] 53)) h1 w.heap.size v2 S ∧ Cur ((((w.setCell ⟨G5, 0, none⟩ a0).setCell ⟨G5, 1, none⟩ a1).setCell ⟨G5, 2, none⟩ a2).alloc (.cells #[s0, s1] 53)) g N ∧ Fr g (g + 1) w0 ((((w.setCell ⟨G5, 0, none⟩ a0).setCell ⟨G5, 1, none⟩ a1).setCell ⟨G5, 2, none⟩ a2).alloc (.cells #[s0, s1] 53)) ∧ w.heap.size ≤ ((((w.setCell ⟨G5, 0, none⟩ a0).setCell ⟨G5, 1, none⟩ a1).setCell ⟨G5, 2, none⟩ a2).alloc (.cells #[s0, s1] 53)).heap.size) :=
  sec_end (G5 := G5) (G6 := w.heap.size) ((((Kp2.refl.set5 0 a0).set5 1 a1).set5 2 a2).alloc (.cells #[s0, s1] 53)) (Bk.newAt (by simp only [size_setCell])) o5 o6 hc hF (by omega) (by omega) q1 q2 (by omega) (by omega) (by omega) (by omega) (by omega)
theorem sec_f4 {u0 u1 : Value} (b6 : Bk w G6 53 #[u0, u1]) (a0 a1 a2 : Value) (s0 s1 : Value) (o5 : Own w l1 h1 v1 P) (o6 : Own w h1 w.heap.size v2 S) (hc : Cur w g N) (hF : Fr g (g + 1) w0 w) (d6 : G6 < l1) (q1 : l1 ≤ h1) (q2 : h1 ≤ w.heap.size) (q4 : g < G6) (q6 : w0.heap.size ≤ G6) (q7 : w0.heap.size ≤ w.heap.size) :
    Hid (Bk (((w.setCell ⟨G6, 0, none⟩ s0).setCell ⟨G6, 1, none⟩ s1).alloc (.cells #[a0, a1, a2] 26)) G6 53 #[s0, s1] ∧ Own (((w.setCell ⟨G6, 0, none⟩ s0).setCell ⟨G6, 1, none⟩ s1).alloc (.cells #[a0, a1, a2] 26)) l1 h1 v1 P ∧ Own (((w.setCell ⟨G6, 0, none⟩ s0).setCell ⟨G6, 1, none⟩ s1).alloc (.cells #[a0, a1, a2] 26)) h1 w.heap.size v2 S ∧ Cur (((w.setCell ⟨G6, 0, none⟩ s0).setCell ⟨G6, 1, none⟩ s1).alloc (.cells #[a0, a1, a2] 26)) g N ∧ Fr g (g + 1) w0 (((w.setCell ⟨G6, 0, none⟩ s0).setCell ⟨G6, 1, none⟩ s1).alloc (.cells #[a0, a1, a2] 26)) ∧ w.heap.size ≤ (((w.setCell ⟨G6, 0, none⟩ s0).setCell ⟨G6, 1, none⟩ s1).alloc (.cells #[a0, a1, a2] 26)).heap.size) :=
  sec_end (G5 := w.heap.size) (G6 := G6) (((Kp2.refl.set6 0 s0).set6 1 s1).alloc (.cells #[a0, a1, a2] 26)) (cs := #[s0, s1]) (t := 53) (by simpa using ((b6.set_ 0 s0).set_ 1 s1).alloc (.cells #[a0, a1, a2] 26)) o5 o6 hc hF (by omega) (by omega) q1 q2 (by omega) (by omega) (by omega) (by omega) (by omega)
theorem sec_f5 {cs : Array Value} {u0 u1 : Value} (b5 : Bk w G5 26 cs) (b6 : Bk w G6 53 #[u0, u1]) (a0 a1 a2 : Value) (s0 s1 : Value) (o5 : Own w l1 h1 v1 P) (o6 : Own w h1 w.heap.size v2 S) (hc : Cur w g N) (hF : Fr g (g + 1) w0 w) (d5 : G5 < l1) (d6 : G6 < l1) (q1 : l1 ≤ h1) (q2 : h1 ≤ w.heap.size) (q4 : g < G5) (q5 : g < G6) (q6 : w0.heap.size ≤ G5) (q7 : w0.heap.size ≤ G6) (q8 : G5 ≠ G6) :
    Hid (Bk (((((w.setCell ⟨G5, 0, none⟩ a0).setCell ⟨G5, 1, none⟩ a1).setCell ⟨G5, 2, none⟩ a2).setCell ⟨G6, 0, none⟩ s0).setCell ⟨G6, 1, none⟩ s1) G6 53 #[s0, s1] ∧ Own (((((w.setCell ⟨G5, 0, none⟩ a0).setCell ⟨G5, 1, none⟩ a1).setCell ⟨G5, 2, none⟩ a2).setCell ⟨G6, 0, none⟩ s0).setCell ⟨G6, 1, none⟩ s1) l1 h1 v1 P ∧ Own (((((w.setCell ⟨G5, 0, none⟩ a0).setCell ⟨G5, 1, none⟩ a1).setCell ⟨G5, 2, none⟩ a2).setCell ⟨G6, 0, none⟩ s0).setCell ⟨G6, 1, none⟩ s1) h1 w.heap.size v2 S ∧ Cur (((((w.setCell ⟨G5, 0, none⟩ a0).setCell ⟨G5, 1, none⟩ a1).setCell ⟨G5, 2, none⟩ a2).setCell ⟨G6, 0, none⟩ s0).setCell ⟨G6, 1, none⟩ s1) g N ∧ Fr g (g + 1) w0 (((((w.setCell ⟨G5, 0, none⟩ a0).setCell ⟨G5, 1, none⟩ a1).setCell ⟨G5, 2, none⟩ a2).setCell ⟨G6, 0, none⟩ s0).setCell ⟨G6, 1, none⟩ s1) ∧ w.heap.size ≤ (((((w.setCell ⟨G5, 0, none⟩ a0).setCell ⟨G5, 1, none⟩ a1).setCell ⟨G5, 2, none⟩ a2).setCell ⟨G6, 0, none⟩ s0).setCell ⟨G6, 1, none⟩ s1).heap.size) :=
  sec_end (G5 := G5) (G6 := G6) (((((Kp2.refl.set5 0 a0).set5 1 a1).set5 2 a2).set6 0 s0).set6 1 s1) (cs := #[s0, s1]) (t := 53) (by simpa using ((((b6.far (p := ⟨G5, 0, none⟩) (by dsimp only; omega) a0).far (p := ⟨G5, 1, none⟩) (by dsimp only; omega) a1).far (p := ⟨G5, 2, none⟩) (by dsimp only; omega) a2).set_ 0 s0).set_ 1 s1) o5 o6 hc hF (by omega) (by omega) q1 q2 (by omega) (by omega) (by omega) (by omega) (by omega)
end
/-- a drawn secret in the making: the boxes, and slices of its own -/
structure SecO (w0 : World) (g N G4 G6 l1 h1 l2 h2 : Nat) (key pages : Int) (us P S : List Int) (A B C : Option Addr) (c d f : Nat) (wq : World) : Prop where
  bS : Bk wq G6 53 #[.slice B P.length d, .slice C S.length f]
  oP : Own wq l1 h1 (.slice B P.length d) P
  oS : Own wq l2 h2 (.slice C S.length f) S
  bK : Bk wq G4 26 #[.int .i64 key, .int .i64 pages, .slice A us.length c]
  ou : Own wq (w0.heap.size + 2) G4 (.slice A us.length c) us
  bZ : Bk wq w0.heap.size 26 #[.int .i64 0, .int .i64 0, .slice none 0 0]
  bY : Bk wq (w0.heap.size + 1) 53 #[.slice none 0 0, .slice none 0 0]
  cur : Cur wq g N
  fr : Fr g (g + 1) w0 wq
  num : (g < w0.heap.size ∧ w0.heap.size + 2 ≤ G4 ∧ G4 < G6) ∧ (G4 < l1 ∧ l1 ≤ h1 ∧ h1 ≤ wq.heap.size) ∧ (G4 < l2 ∧ l2 ≤ h2 ∧ h2 ≤ wq.heap.size) ∧ (G6 < l1 ∨ h1 ≤ G6) ∧ (G6 < l2 ∨ h2 ≤ G6) ∧ (h1 ≤ l2 ∨ h2 ≤ l1) ∧ P.length ≤ 60 ∧ S.length ≤ 60
/-- the same, for reading -/
structure SecR (w0 : World) (g N G4 G6 : Nat) (key pages : Int) (us P S : List Int) (A B C : Option Addr) (c d f : Nat) (wq : World) : Prop where
  bS : Bk wq G6 53 #[.slice B P.length d, .slice C S.length f]
  rP : Rd wq (w0.heap.size + 2) wq.heap.size B P
  rS : Rd wq (w0.heap.size + 2) wq.heap.size C S
  bK : Bk wq G4 26 #[.int .i64 key, .int .i64 pages, .slice A us.length c]
  ou : Own wq (w0.heap.size + 2) G4 (.slice A us.length c) us
  bZ : Bk wq w0.heap.size 26 #[.int .i64 0, .int .i64 0, .slice none 0 0]
  bY : Bk wq (w0.heap.size + 1) 53 #[.slice none 0 0, .slice none 0 0]
  cur : Cur wq g N
  fr : Fr g (g + 1) w0 wq
  num : (g < w0.heap.size ∧ w0.heap.size + 2 ≤ G4 ∧ G4 < G6) ∧ P.length ≤ 61 ∧ S.length ≤ 61 ∧ P.length ≤ d ∧ S.length ≤ f
section
variable {w0 wq wa w8 : World} {g N M G4 G6 l1 h1 l2 h2 : Nat} {key pages : Int} {us P S : List Int} {A B C : Option Addr} {c d f : Nat}
theorem SecO.keep (h : SecO w0 g N G4 G6 l1 h1 l2 h2 key pages us P S A B C c d f wq) (hc : Cur wa g M) (hF : Fr g (g + 1) w0 wa) (hs : wq.heap.size ≤ wa.heap.size) (hk : ∀ k, k < wq.heap.size → w0.heap.size ≤ k → wa.heap[k]? = wq.heap[k]?) : SecO w0 g M G4 G6 l1 h1 l2 h2 key pages us P S A B C c d f wa := by
  have hn := h.num
  exact ⟨h.bS.keep (hk _ h.bS.lt (by omega)), h.oP.keep fun k _ a1 _ a3 => hk k a3 (by omega), h.oS.keep fun k _ a1 _ a3 => hk k a3 (by omega), h.bK.keep (hk _ h.bK.lt (by omega)), h.ou.keep fun k _ a1 _ a3 => hk k a3 (by omega), h.bZ.keep (hk _ h.bZ.lt (by omega)), h.bY.keep (hk _ h.bY.lt (by omega)), hc, hF, by omega⟩
theorem SecO.frc (h : SecO w0 g N G4 G6 l1 h1 l2 h2 key pages us P S A B C c d f wq) (fa : Fr g (g + 1) wq wa) (hc : Cur wa g M) : SecO w0 g M G4 G6 l1 h1 l2 h2 key pages us P S A B C c d f wa :=
  h.keep hc (h.fr.trans fa) fa.size fun k a1 a2 => fa.block k a1 (by have := h.num; omega)
theorem SecO.alloc (h : SecO w0 g N G4 G6 l1 h1 l2 h2 key pages us P S A B C c d f wq) (o : Obj) : SecO w0 g N G4 G6 l1 h1 l2 h2 key pages us P S A B C c d f (wq.alloc o) :=
  h.keep (h.cur.alloc o) (h.fr.alloc o) (by simp) fun k a1 _ => Below.heap_alloc wq o k a1
theorem SecO.drew (h : SecO w0 g N G4 G6 l1 h1 l2 h2 key pages us P S A B C c d f wq) : SecO w0 g N G4 G6 l1 h1 l2 h2 key pages us P S A B C c d f wq.drew :=
  h.keep h.cur.drew h.fr.drew (Nat.le_refl _) fun _ _ _ => rfl
theorem SecO.le (h : SecO w0 g N G4 G6 l1 h1 l2 h2 key pages us P S A B C c d f wq) (hM : N ≤ M) : SecO w0 g M G4 G6 l1 h1 l2 h2 key pages us P S A B C c d f wq := { h with cur := h.cur.le hM }
theorem SecO.toR (h : SecO w0 g N G4 G6 l1 h1 l2 h2 key pages us P S A B C c d f wq) (hM : N ≤ M) : SecR w0 g M G4 G6 key pages us P S A B C c d f wq := by
  have hn := h.num
  exact ⟨h.bS, h.oP.rd'.mono (by omega) (by omega), h.oS.rd'.mono (by omega) (by omega), h.bK, h.ou, h.bZ, h.bY, h.cur.le hM, h.fr, by omega, by omega, by omega, h.oP.len.2, h.oS.len.2⟩
/-- the secret written anew -/
theorem SecO.renew {P2 S2 : List Int} {B2 C2 : Option Addr} {d2 f2 l3 h3 l4 h4 : Nat} (h : SecO w0 g N G4 G6 l1 h1 l2 h2 key pages us P S A B C c d f wq) (oP : Own wq l3 h3 (.slice B2 P2.length d2) P2) (oS : Own wq l4 h4 (.slice C2 S2.length f2) S2) (h3' : G6 < l3 ∧ l3 ≤ h3 ∧ h3 ≤ wq.heap.size) (h4' : G6 < l4 ∧ l4 ≤ h4 ∧ h4 ≤ wq.heap.size) (h34 : h3 ≤ l4 ∨ h4 ≤ l3) (hp : P2.length ≤ 60) (hs : S2.length ≤ 60) :
    SecO w0 g N G4 G6 l3 h3 l4 h4 key pages us P2 S2 A B2 C2 c d2 f2 ((wq.setCell ⟨G6, 0, none⟩ (.slice B2 P2.length d2)).setCell ⟨G6, 1, none⟩ (.slice C2 S2.length f2)) := by
  have hn := h.num
  refine ⟨by simpa using (h.bS.set_ 0 (.slice B2 P2.length d2)).set_ 1 (.slice C2 S2.length f2), (oP.setCell (.inl (by dsimp only; omega)) _).setCell (.inl (by dsimp only; omega)) _, (oS.setCell (.inl (by dsimp only; omega)) _).setCell (.inl (by dsimp only; omega)) _, (h.bK.far (by dsimp only; omega) _).far (by dsimp only; omega) _,
    (h.ou.setCell (.inr (by dsimp only; omega)) _).setCell (.inr (by dsimp only; omega)) _, (h.bZ.far (by dsimp only; omega) _).far (by dsimp only; omega) _, (h.bY.far (by dsimp only; omega) _).far (by dsimp only; omega) _, (h.cur.setCell (by dsimp only; omega) _).setCell (by dsimp only; omega) _, (h.fr.setNew (by dsimp only; omega) _).setNew (by dsimp only; omega) _, ?_⟩
  simp only [size_setCell]
  omega
theorem SecO.renewA {o : Obj} {P2 S2 : List Int} {B2 C2 : Option Addr} {d2 f2 l3 h3 l4 h4 : Nat} (h : SecO w0 g N G4 G6 l1 h1 l2 h2 key pages us P S A B C c d f wq) (oP : Own (wq.alloc o) l3 h3 (.slice B2 P2.length d2) P2) (oS : Own (wq.alloc o) l4 h4 (.slice C2 S2.length f2) S2) (h3' : G6 < l3 ∧ l3 ≤ h3 ∧ h3 ≤ wq.heap.size + 1) (h4' : G6 < l4 ∧ l4 ≤ h4 ∧ h4 ≤ wq.heap.size + 1) (h34 : h3 ≤ l4 ∨ h4 ≤ l3) (hp : P2.length ≤ 60) (hs : S2.length ≤ 60) :
    SecO w0 g N G4 G6 l3 h3 l4 h4 key pages us P2 S2 A B2 C2 c d2 f2 (((wq.setCell ⟨G6, 0, none⟩ (.slice B2 P2.length d2)).setCell ⟨G6, 1, none⟩ (.slice C2 S2.length f2)).alloc o) := by
  have e : (wq.alloc o).heap.size = wq.heap.size + 1 := by simp
  have h9 := (h.alloc o).renew oP oS ⟨h3'.1, by omega, by omega⟩ ⟨h4'.1, by omega, by omega⟩ h34 hp hs
  rw [World.setCell_alloc_past _ _ _ _ h.bS.lt, World.setCell_alloc_past _ _ _ _ (by rw [size_setCell]; exact h.bS.lt)] at h9
  exact h9
theorem SecR.le (h : SecR w0 g N G4 G6 key pages us P S A B C c d f wq) (hM : N ≤ M) : SecR w0 g M G4 G6 key pages us P S A B C c d f wq := { h with cur := h.cur.le hM }
theorem SecR.put (h : SecR w0 g N G4 G6 key pages us P S A B C c d f wq) :
    Own (((((wq.setCell ⟨w0.heap.size, 0, none⟩ (.int .i64 key)).setCell ⟨w0.heap.size, 1, none⟩ (.int .i64 pages)).setCell ⟨w0.heap.size, 2, none⟩ (.slice A us.length c)).setCell ⟨w0.heap.size + 1, 0, none⟩ (.slice B P.length d)).setCell ⟨w0.heap.size + 1, 1, none⟩ (.slice C S.length f)) (w0.heap.size + 2) G4 (.slice A us.length c) us ∧ Rd (((((wq.setCell ⟨w0.heap.size, 0, none⟩ (.int .i64 key)).setCell ⟨w0.heap.size, 1, none⟩ (.int .i64 pages)).setCell ⟨w0.heap.size, 2, none⟩ (.slice A us.length c)).setCell ⟨w0.heap.size + 1, 0, none⟩ (.slice B P.length d)).setCell ⟨w0.heap.size + 1, 1, none⟩ (.slice C S.length f)) w0.heap.size (((((wq.setCell ⟨w0.heap.size, 0, none⟩ (.int .i64 key)).setCell ⟨w0.heap.size, 1, none⟩ (.int .i64 pages)).setCell ⟨w0.heap.size, 2, none⟩ (.slice A us.length c)).setCell ⟨w0.heap.size + 1, 0, none⟩ (.slice B P.length d)).setCell ⟨w0.heap.size + 1, 1, none⟩ (.slice C S.length f)).heap.size B P ∧ Rd (((((wq.setCell ⟨w0.heap.size, 0, none⟩ (.int .i64 key)).setCell ⟨w0.heap.size, 1, none⟩ (.int .i64 pages)).setCell ⟨w0.heap.size, 2, none⟩ (.slice A us.length c)).setCell ⟨w0.heap.size + 1, 0, none⟩ (.slice B P.length d)).setCell ⟨w0.heap.size + 1, 1, none⟩ (.slice C S.length f)) w0.heap.size (((((wq.setCell ⟨w0.heap.size, 0, none⟩ (.int .i64 key)).setCell ⟨w0.heap.size, 1, none⟩ (.int .i64 pages)).setCell ⟨w0.heap.size, 2, none⟩ (.slice A us.length c)).setCell ⟨w0.heap.size + 1, 0, none⟩ (.slice B P.length d)).setCell ⟨w0.heap.size + 1, 1, none⟩ (.slice C S.length f)).heap.size C S ∧ Cur (((((wq.setCell ⟨w0.heap.size, 0, none⟩ (.int .i64 key)).setCell ⟨w0.heap.size, 1, none⟩ (.int .i64 pages)).setCell ⟨w0.heap.size, 2, none⟩ (.slice A us.length c)).setCell ⟨w0.heap.size + 1, 0, none⟩ (.slice B P.length d)).setCell ⟨w0.heap.size + 1, 1, none⟩ (.slice C S.length f)) g N ∧ Fr g (g + 1) w0 (((((wq.setCell ⟨w0.heap.size, 0, none⟩ (.int .i64 key)).setCell ⟨w0.heap.size, 1, none⟩ (.int .i64 pages)).setCell ⟨w0.heap.size, 2, none⟩ (.slice A us.length c)).setCell ⟨w0.heap.size + 1, 0, none⟩ (.slice B P.length d)).setCell ⟨w0.heap.size + 1, 1, none⟩ (.slice C S.length f)) := by
  have hn := h.num
  exact ⟨(((((h.ou.setCell (p := ⟨w0.heap.size, 0, none⟩) (.inl (by dsimp only; omega)) (.int .i64 key)).setCell (p := ⟨w0.heap.size, 1, none⟩) (.inl (by dsimp only; omega)) (.int .i64 pages)).setCell (p := ⟨w0.heap.size, 2, none⟩) (.inl (by dsimp only; omega)) (.slice A us.length c)).setCell (p := ⟨w0.heap.size + 1, 0, none⟩) (.inl (by dsimp only; omega)) (.slice B P.length d)).setCell (p := ⟨w0.heap.size + 1, 1, none⟩) (.inl (by dsimp only; omega)) (.slice C S.length f)), ((((((h.rP.setAny (p := ⟨w0.heap.size, 0, none⟩) (.inl (by dsimp only; omega)) (.int .i64 key)).setAny (p := ⟨w0.heap.size, 1, none⟩) (.inl (by dsimp only; omega)) (.int .i64 pages)).setAny (p := ⟨w0.heap.size, 2, none⟩) (.inl (by dsimp only; omega)) (.slice A us.length c)).setAny (p := ⟨w0.heap.size + 1, 0, none⟩) (.inl (by dsimp only; omega)) (.slice B P.length d)).setAny (p := ⟨w0.heap.size + 1, 1, none⟩) (.inl (by dsimp only; omega)) (.slice C S.length f)).mono (by omega) (by simp only [size_setCell]; exact Nat.le_refl _)), ((((((h.rS.setAny (p := ⟨w0.heap.size, 0, none⟩) (.inl (by dsimp only; omega)) (.int .i64 key)).setAny (p := ⟨w0.heap.size, 1, none⟩) (.inl (by dsimp only; omega)) (.int .i64 pages)).setAny (p := ⟨w0.heap.size, 2, none⟩) (.inl (by dsimp only; omega)) (.slice A us.length c)).setAny (p := ⟨w0.heap.size + 1, 0, none⟩) (.inl (by dsimp only; omega)) (.slice B P.length d)).setAny (p := ⟨w0.heap.size + 1, 1, none⟩) (.inl (by dsimp only; omega)) (.slice C S.length f)).mono (by omega) (by simp only [size_setCell]; exact Nat.le_refl _)), (((((h.cur.setCell (p := ⟨w0.heap.size, 0, none⟩) (by dsimp only; omega) (.int .i64 key)).setCell (p := ⟨w0.heap.size, 1, none⟩) (by dsimp only; omega) (.int .i64 pages)).setCell (p := ⟨w0.heap.size, 2, none⟩) (by dsimp only; omega) (.slice A us.length c)).setCell (p := ⟨w0.heap.size + 1, 0, none⟩) (by dsimp only; omega) (.slice B P.length d)).setCell (p := ⟨w0.heap.size + 1, 1, none⟩) (by dsimp only; omega) (.slice C S.length f)), (((((h.fr.setNew (p := ⟨w0.heap.size, 0, none⟩) (by dsimp only; omega) (.int .i64 key)).setNew (p := ⟨w0.heap.size, 1, none⟩) (by dsimp only; omega) (.int .i64 pages)).setNew (p := ⟨w0.heap.size, 2, none⟩) (by dsimp only; omega) (.slice A us.length c)).setNew (p := ⟨w0.heap.size + 1, 0, none⟩) (by dsimp only; omega) (.slice B P.length d)).setNew (p := ⟨w0.heap.size + 1, 1, none⟩) (by dsimp only; omega) (.slice C S.length f))⟩
/-- a number of the pages, of the signals, written -/
theorem SecO.setP {gg : Nat} (h : SecO w0 g N G4 G6 l1 h1 l2 h2 key pages us P S A (some ⟨gg, 0, none⟩) C c d f wq) (hp : 0 < P.length) (kk : Int) (hM : N ≤ M) : SecR w0 g M G4 G6 key pages us (P.set 0 kk) S A (some ⟨gg, 0, none⟩) C c d f (wq.setCell ⟨gg, 0, none⟩ (.int .i64 kk)) := by
  have hn := h.num
  obtain ⟨-, -, q1, q2, q3⟩ := h.oP.at2 hp
  refine ⟨by rw [List.length_set]; exact h.bS.far (by dsimp only; omega) _, (h.oP.stored (j := 0) kk).rd'.mono (by omega) (by rw [size_setCell]; omega), (h.oS.setCell (by dsimp only; omega) _).rd'.mono (by omega) (by rw [size_setCell]; omega), h.bK.far (by dsimp only; omega) _, h.ou.setCell (.inr (by dsimp only; omega)) _, h.bZ.far (by dsimp only; omega) _, h.bY.far (by dsimp only; omega) _, (h.cur.setCell (by dsimp only; omega) _).le hM, h.fr.setNew (by dsimp only; omega) _, ?_⟩
  have h5 := h.oP.len.2
  have h6 := h.oS.len.2
  rw [List.length_set]
  omega
theorem SecO.setS {gg : Nat} (h : SecO w0 g N G4 G6 l1 h1 l2 h2 key pages us P S A B (some ⟨gg, 0, none⟩) c d f wq) (hp : 0 < S.length) (kk : Int) (hM : N ≤ M) : SecR w0 g M G4 G6 key pages us P (S.set 0 kk) A B (some ⟨gg, 0, none⟩) c d f (wq.setCell ⟨gg, 0, none⟩ (.int .i64 kk)) := by
  have hn := h.num
  obtain ⟨-, -, q1, q2, q3⟩ := h.oS.at2 hp
  refine ⟨by rw [List.length_set]; exact h.bS.far (by dsimp only; omega) _, (h.oP.setCell (by dsimp only; omega) _).rd'.mono (by omega) (by rw [size_setCell]; omega), (h.oS.stored (j := 0) kk).rd'.mono (by omega) (by rw [size_setCell]; omega), h.bK.far (by dsimp only; omega) _, h.ou.setCell (.inr (by dsimp only; omega)) _, h.bZ.far (by dsimp only; omega) _, h.bY.far (by dsimp only; omega) _, (h.cur.setCell (by dsimp only; omega) _).le hM, h.fr.setNew (by dsimp only; omega) _, ?_⟩
  have h5 := h.oP.len.2
  have h6 := h.oS.len.2
  rw [List.length_set]
  omega
/-- behind an append to one of the two -/
theorem SecO.appP {P2 : List Int} {B2 : Option Addr} {d2 : Nat} (h : SecO w0 g N G4 G6 l1 h1 l2 h2 key pages us P S A B C c d f wq) (ho : Own w8 l1 w8.heap.size (.slice B2 P2.length d2) P2) (hg : wq.grownBy w8 (Value.slice B P.length d).ownBlock) (hat : (Value.slice B2 P2.length d2).ownBlock = (Value.slice B P.length d).ownBlock ∨ (Value.slice B2 P2.length d2).ownBlock = some wq.heap.size) (hl : P2.length ≤ 61) (hM : N ≤ M) : SecR w0 g M G4 G6 key pages us P2 S A B2 C c d2 f (w8.setCell ⟨G6, 0, none⟩ (.slice B2 P2.length d2)) ∧ Bk w8 G6 53 #[.slice B P.length d, .slice C S.length f] := by
  have hn := h.num
  have hf : Fr l1 h1 wq w8 := Fr.grown hg fun k hk => ⟨(h.oP.lt k hk).1, (h.oP.lt k hk).2.1⟩
  have hs := hf.size
  have b8 : Bk w8 G6 53 #[.slice B P.length d, .slice C S.length f] := h.bS.fr hf (by omega)
  refine ⟨⟨by simpa using b8.set_ 0 (.slice B2 P2.length d2), ?_, ((h.oS.fr hf (by omega)).rd'.setAny (p := ⟨G6, 0, none⟩) (by dsimp only; omega) _).mono (by omega) (by rw [size_setCell]; omega), (h.bK.fr hf (by omega)).far (by dsimp only; omega) _, (h.ou.fr hf (by omega)).setCell (.inr (by dsimp only; omega)) _, (h.bZ.fr hf (by omega)).far (by dsimp only; omega) _, (h.bY.fr hf (by omega)).far (by dsimp only; omega) _, ((h.cur.frc hf (by omega)).setCell (by dsimp only; omega) _).le hM, (h.fr.then_below (B := w0.heap.size) (hf.below (by omega) (by have := h.fr.size; omega)) (Nat.le_refl _)).setNew (by dsimp only; omega) _, ?_⟩, b8⟩
  · have h6l := h.bS.lt
    have h7 : Own (w8.setCell ⟨G6, 0, none⟩ (.slice B2 P2.length d2)) l1 w8.heap.size (.slice B2 P2.length d2) P2 := ho.keep fun k hk a1 a2 a3 => Below.heap_setCell w8 ⟨G6, 0, none⟩ _ k (by
      rcases hat with e | e
      · rw [e] at hk
        have := h.oP.lt k hk
        dsimp only; omega
      · rw [e] at hk
        injection hk with hk
        dsimp only; omega)
    exact h7.rd'.mono (by omega) (by rw [size_setCell]; exact Nat.le_refl _)
  · have h5 := ho.len.2
    have h6 := h.oS.len.2
    omega
theorem SecO.appS {S2 : List Int} {C2 : Option Addr} {f2 : Nat} (h : SecO w0 g N G4 G6 l1 h1 l2 h2 key pages us P S A B C c d f wq) (ho : Own w8 l2 w8.heap.size (.slice C2 S2.length f2) S2) (hg : wq.grownBy w8 (Value.slice C S.length f).ownBlock) (hat : (Value.slice C2 S2.length f2).ownBlock = (Value.slice C S.length f).ownBlock ∨ (Value.slice C2 S2.length f2).ownBlock = some wq.heap.size) (hl : S2.length ≤ 61) (hM : N ≤ M) : SecR w0 g M G4 G6 key pages us P S2 A B C2 c d f2 (w8.setCell ⟨G6, 1, none⟩ (.slice C2 S2.length f2)) ∧ Bk w8 G6 53 #[.slice B P.length d, .slice C S.length f] := by
  have hn := h.num
  have hf : Fr l2 h2 wq w8 := Fr.grown hg fun k hk => ⟨(h.oS.lt k hk).1, (h.oS.lt k hk).2.1⟩
  have hs := hf.size
  have b8 : Bk w8 G6 53 #[.slice B P.length d, .slice C S.length f] := h.bS.fr hf (by omega)
  refine ⟨⟨by simpa using b8.set_ 1 (.slice C2 S2.length f2), ((h.oP.fr hf (by omega)).rd'.setAny (p := ⟨G6, 1, none⟩) (by dsimp only; omega) _).mono (by omega) (by rw [size_setCell]; omega), ?_, (h.bK.fr hf (by omega)).far (by dsimp only; omega) _, (h.ou.fr hf (by omega)).setCell (.inr (by dsimp only; omega)) _, (h.bZ.fr hf (by omega)).far (by dsimp only; omega) _, (h.bY.fr hf (by omega)).far (by dsimp only; omega) _, ((h.cur.frc hf (by omega)).setCell (by dsimp only; omega) _).le hM, (h.fr.then_below (B := w0.heap.size) (hf.below (by omega) (by have := h.fr.size; omega)) (Nat.le_refl _)).setNew (by dsimp only; omega) _, ?_⟩, b8⟩
  · have h6l := h.bS.lt
    have h7 : Own (w8.setCell ⟨G6, 1, none⟩ (.slice C2 S2.length f2)) l2 w8.heap.size (.slice C2 S2.length f2) S2 := ho.keep fun k hk a1 a2 a3 => Below.heap_setCell w8 ⟨G6, 1, none⟩ _ k (by
      rcases hat with e | e
      · rw [e] at hk
        have := h.oS.lt k hk
        dsimp only; omega
      · rw [e] at hk
        injection hk with hk
        dsimp only; omega)
    exact h7.rd'.mono (by omega) (by rw [size_setCell]; exact Nat.le_refl _)
  · have h5 := ho.len.2
    have h6 := h.oP.len.2
    omega
end
set_option maxRecDepth 100000 in
set_option maxHeartbeats 8000000 in
theorem secret_any (g N : Nat) (w : World) (hc : Cur w g N) (hN : N ≤ 4611686018427370000) :
    Calls Tryz.prog 114 #[.pointer (some ⟨g, 0, none⟩)] w fun e w' => ∃ (key pages : Int) (us P S : List Int) (A : Option Addr) (c : Nat) (B : Option Addr) (d : Nat) (C : Option Addr) (f lu hu : Nat), e = .returned (.tuple #[.agg #[.int .i64 key, .int .i64 pages, .slice A us.length c], .agg #[.slice B P.length d, .slice C S.length f]]) ∧ (us.length ≤ 100 ∧ P.length ≤ 61 ∧ S.length ≤ 61 ∧ P.length ≤ d ∧ S.length ≤ f) ∧ Own w' lu hu (.slice A us.length c) us ∧ Rd w' w.heap.size w'.heap.size B P ∧ Rd w' w.heap.size w'.heap.size C S ∧ (w.heap.size ≤ lu ∧ hu ≤ w'.heap.size) ∧ Cur w' g (N + 600) ∧ Fr g (g + 1) w w' := by
  have hgl := hc.lt
  have hF := Fr.refl g (g + 1) w
  go_enter Tryz.func114, Tryz.ntmps114
  go_wp2_with fail
  obtain ⟨w1, hw1⟩ : ∃ u, u = w.alloc (.cells #[.int .i64 0, .int .i64 0, .slice none 0 0] 26) := ⟨_, rfl⟩
  rw [← hw1]
  have e1 : w1.heap.size = w.heap.size + 1 := by rw [hw1]; simp
  have s1 : w.heap.size + 1 ≤ w1.heap.size := by omega
  have b1 : Below w.heap.size w w1 := by rw [hw1]; exact (Below.refl _ _).alloc (Nat.le_refl _) _
  have bZ : Bk w1 (w.heap.size) 26 #[.int .i64 0, .int .i64 0, .slice none 0 0] := by rw [hw1]; exact Bk.new _ _ _
  replace hc := hc.st b1
  replace hF := hF.then_below b1 hF.size
  replace e1 := Lib.hid e1
  clear b1 hw1
  obtain ⟨w2, hw2⟩ : ∃ u, u = w1.alloc (.cells #[.slice none 0 0, .slice none 0 0] 53) := ⟨_, rfl⟩
  rw [← hw2]
  have e2 : w2.heap.size = w1.heap.size + 1 := by rw [hw2]; simp
  have s2 : w1.heap.size + 1 ≤ w2.heap.size := by omega
  have b2 : Below w1.heap.size w1 w2 := by rw [hw2]; exact (Below.refl _ _).alloc (Nat.le_refl _) _
  have a2 : w1.heap.size = w.heap.size + 1 := by have h0 := e1.out; omega
  have bY : Bk w2 (w.heap.size + 1) 53 #[.slice none 0 0, .slice none 0 0] := by rw [← a2]; rw [hw2]; exact Bk.new _ _ _
  replace hc := hc.st b2
  replace hF := hF.then_below b2 hF.size
  replace bZ := bZ.st b2
  replace e2 := Lib.hid e2
  clear b2 hw2 a2
  (with_reducible refine (keyBook_any g N _ hc (by omega)).mono ?_)
  rintro e w3 ⟨key, pages, us, A, c, rfl, hpg, hus, ho, hcn, f3⟩
  clear hc
  have hc := hcn
  clear hcn
  have s3 : w2.heap.size ≤ w3.heap.size := f3.size
  replace hF := hF.trans f3
  replace bZ := bZ.fr f3 (by omega)
  replace bY := bY.fr f3 (by omega)
  clear f3
  go_upto_region 2 with fail
  obtain ⟨w4, hw4⟩ : ∃ u, u = w3.alloc (.cells #[.int .i64 key, .int .i64 pages, .slice A us.length c] 26) := ⟨_, rfl⟩
  rw [← hw4]
  have e4 : w4.heap.size = w3.heap.size + 1 := by rw [hw4]; simp
  have s4 : w3.heap.size + 1 ≤ w4.heap.size := by omega
  have b4 : Below w3.heap.size w3 w4 := by rw [hw4]; exact (Below.refl _ _).alloc (Nat.le_refl _) _
  have bB : Bk w4 (w3.heap.size) 26 #[.int .i64 key, .int .i64 pages, .slice A us.length c] := by rw [hw4]; exact Bk.new _ _ _
  replace hF := hF.then_below b4 hF.size
  replace bZ := bZ.st b4
  replace bY := bY.st b4
  replace hc := hc.st b4
  replace ho := ho.st b4
  replace e4 := Lib.hid e4
  clear b4 hw4
  go_cut [5, 6, 7] from 8 (fun s5 s6 s7 wq => ∃ (G5 G6 : Nat) (P S : List Int) (B : Option Addr) (d : Nat) (C : Option Addr) (f : Nat) (v : Bool) (l1 h1 h2 : Nat), s5 = .pointer (some ⟨G5, 0, none⟩) ∧ s6 = .pointer (some ⟨G6, 0, none⟩) ∧ s7 = .bool v ∧ Bk wq G6 53 #[.slice B P.length d, .slice C S.length f] ∧ Own wq l1 h1 (.slice B P.length d) P ∧ Own wq h1 h2 (.slice C S.length f) S ∧
      (w4.heap.size ≤ l1 ∧ l1 ≤ h1 ∧ h1 ≤ h2 ∧ h2 ≤ wq.heap.size ∧ (G6 < l1 ∨ h2 ≤ G6) ∧ w4.heap.size ≤ G6 ∧ P.length ≤ 60 ∧ S.length ≤ 60) ∧ Cur wq g (N + 540) ∧ Fr g (g + 1) w4 wq)
  case first =>
    have hNN : N + 540 ≤ 4611686018427380000 := by omega
    clear hF bZ bY hpg
    have hF := Fr.refl g (g + 1) w4
    have xl := bB.lt
    have y0 : w4.drew.cell? ⟨w3.heap.size, 0, none⟩ = some (.int .i64 key) := bB.cell 0
    have y1 : w4.drew.cell? ⟨w3.heap.size, 1, none⟩ = some (.int .i64 pages) := bB.cell 1
    have y2 : w4.drew.cell? ⟨w3.heap.size, 2, none⟩ = some (.slice A us.length c) := bB.cell 2
    have sd : w4.heap.size ≤ w4.drew.heap.size := Nat.le_refl _
    have hgB : g + 1 ≤ w3.heap.size := by omega
    skip
    go_wp2_with fail
    go_region_held3 (fun w' => w'.cell? ⟨w3.heap.size, 0, none⟩ = some (.int .i64 key) ∧ w'.cell? ⟨w3.heap.size, 1, none⟩ = some (.int .i64 pages) ∧ w'.cell? ⟨w3.heap.size, 2, none⟩ = some (.slice A us.length c))
      (((try go_split_ands); (try dsimp only); (repeat' apply And.intro) <;> (repeat' (first | with_reducible assumption | with_reducible refine kp_alloc ?_ | with_reducible refine kp_allocd ?_ | (with_reducible refine kp_set ?_ (by dsimp only; omega))))))
      (first
        | (go_at_call 108; (have hcX : Cur w4.drew g (N + 300) := hc.drew); (have hFX : Fr g (g + 1) w4 w4.drew := hF.drew); (have bBX : Bk w4.drew w3.heap.size 26 #[.int .i64 key, .int .i64 pages, .slice A us.length c] := bB.drew); ((with_reducible refine (clearSignals_any g (N + 300) 60 w4.drew hcX (by omega) (by omega)).mono ?_); rintro e wa ⟨ss, Aa, ca, rfl, hla, oa, hca, fa⟩); (have sa : w4.heap.size + 0 ≤ wa.heap.size := by have := fa.size; simpa using this); clear hc hF bB y0 y1 y2; (have hc := hca); (have hF := hFX.trans fa); (have bB := bBX.fr fa (.inr hgB)); (replace ho := (ho.drew).fr fa (.inr (by omega))); clear hcX hFX bBX fa hca; (have y0 := bB.cell 0); (have y1 := bB.cell 1); (have y2 := bB.cell 2); (simp at y0 y1 y2))
        | (go_at_call 108; (have b5 : Bk (w4.alloc (Obj.cells #[.int .i64 0, .int .i64 0, .slice none 0 0] 26 (0, 0))).drew w4.heap.size 26 #[.int .i64 0, .int .i64 0, .slice none 0 0] := Bk.new w4 _ _); (have hcX : Cur (w4.alloc (Obj.cells #[.int .i64 0, .int .i64 0, .slice none 0 0] 26 (0, 0))).drew g (N + 300) := (hc.alloc _).drew); (have hFX : Fr g (g + 1) w4 (w4.alloc (Obj.cells #[.int .i64 0, .int .i64 0, .slice none 0 0] 26 (0, 0))).drew := (hF.alloc _).drew); (have bBX : Bk (w4.alloc (Obj.cells #[.int .i64 0, .int .i64 0, .slice none 0 0] 26 (0, 0))).drew w3.heap.size 26 #[.int .i64 key, .int .i64 pages, .slice A us.length c] := (bB.alloc _).drew); ((with_reducible refine (clearSignals_any g (N + 300) 60 (w4.alloc (Obj.cells #[.int .i64 0, .int .i64 0, .slice none 0 0] 26 (0, 0))).drew hcX (by omega) (by omega)).mono ?_); rintro e wa ⟨ss, Aa, ca, rfl, hla, oa, hca, fa⟩); (have sa : w4.heap.size + 1 ≤ wa.heap.size := by have := fa.size; simpa using this); clear hc hF bB y0 y1 y2; (have hc := hca); (have hF := hFX.trans fa); (have bB := bBX.fr fa (.inr hgB)); (replace b5 := b5.fr fa (.inr (by omega))); (replace ho := ((ho.alloc _).drew).fr fa (.inr (by omega))); clear hcX hFX bBX fa hca; (have y0 := bB.cell 0); (have y1 := bB.cell 1); (have y2 := bB.cell 2); (simp at y0 y1 y2))
        | (go_at_call 108; (have b6 : Bk (w4.alloc (Obj.cells #[.slice none 0 0, .slice none 0 0] 53 (0, 0))).drew w4.heap.size 53 #[.slice none 0 0, .slice none 0 0] := Bk.new w4 _ _); (have hcX : Cur (w4.alloc (Obj.cells #[.slice none 0 0, .slice none 0 0] 53 (0, 0))).drew g (N + 300) := (hc.alloc _).drew); (have hFX : Fr g (g + 1) w4 (w4.alloc (Obj.cells #[.slice none 0 0, .slice none 0 0] 53 (0, 0))).drew := (hF.alloc _).drew); (have bBX : Bk (w4.alloc (Obj.cells #[.slice none 0 0, .slice none 0 0] 53 (0, 0))).drew w3.heap.size 26 #[.int .i64 key, .int .i64 pages, .slice A us.length c] := (bB.alloc _).drew); ((with_reducible refine (clearSignals_any g (N + 300) 60 (w4.alloc (Obj.cells #[.slice none 0 0, .slice none 0 0] 53 (0, 0))).drew hcX (by omega) (by omega)).mono ?_); rintro e wa ⟨ss, Aa, ca, rfl, hla, oa, hca, fa⟩); (have sa : w4.heap.size + 1 ≤ wa.heap.size := by have := fa.size; simpa using this); clear hc hF bB y0 y1 y2; (have hc := hca); (have hF := hFX.trans fa); (have bB := bBX.fr fa (.inr hgB)); (replace b6 := b6.fr fa (.inr (by omega))); (replace ho := ((ho.alloc _).drew).fr fa (.inr (by omega))); clear hcX hFX bBX fa hca; (have y0 := bB.cell 0); (have y1 := bB.cell 1); (have y2 := bB.cell 2); (simp at y0 y1 y2))
        | (go_at_call 108; (have b5 : Bk ((w4.alloc (Obj.cells #[.int .i64 0, .int .i64 0, .slice none 0 0] 26 (0, 0))).alloc (Obj.cells #[.slice none 0 0, .slice none 0 0] 53 (0, 0))).drew w4.heap.size 26 #[.int .i64 0, .int .i64 0, .slice none 0 0] := (Bk.new w4 _ _).alloc _); (have b6 : Bk ((w4.alloc (Obj.cells #[.int .i64 0, .int .i64 0, .slice none 0 0] 26 (0, 0))).alloc (Obj.cells #[.slice none 0 0, .slice none 0 0] 53 (0, 0))).drew (w4.heap.size + 1) 53 #[.slice none 0 0, .slice none 0 0] := Bk.new2 w4 _ _ _); (have hcX : Cur ((w4.alloc (Obj.cells #[.int .i64 0, .int .i64 0, .slice none 0 0] 26 (0, 0))).alloc (Obj.cells #[.slice none 0 0, .slice none 0 0] 53 (0, 0))).drew g (N + 300) := ((hc.alloc _).alloc _).drew); (have hFX : Fr g (g + 1) w4 ((w4.alloc (Obj.cells #[.int .i64 0, .int .i64 0, .slice none 0 0] 26 (0, 0))).alloc (Obj.cells #[.slice none 0 0, .slice none 0 0] 53 (0, 0))).drew := ((hF.alloc _).alloc _).drew); (have bBX : Bk ((w4.alloc (Obj.cells #[.int .i64 0, .int .i64 0, .slice none 0 0] 26 (0, 0))).alloc (Obj.cells #[.slice none 0 0, .slice none 0 0] 53 (0, 0))).drew w3.heap.size 26 #[.int .i64 key, .int .i64 pages, .slice A us.length c] := ((bB.alloc _).alloc _).drew); ((with_reducible refine (clearSignals_any g (N + 300) 60 ((w4.alloc (Obj.cells #[.int .i64 0, .int .i64 0, .slice none 0 0] 26 (0, 0))).alloc (Obj.cells #[.slice none 0 0, .slice none 0 0] 53 (0, 0))).drew hcX (by omega) (by omega)).mono ?_); rintro e wa ⟨ss, Aa, ca, rfl, hla, oa, hca, fa⟩); (have sa : w4.heap.size + 2 ≤ wa.heap.size := by have := fa.size; simpa using this); clear hc hF bB y0 y1 y2; (have hc := hca); (have hF := hFX.trans fa); (have bB := bBX.fr fa (.inr hgB)); (replace b5 := b5.fr fa (.inr (by omega))); (replace b6 := b6.fr fa (.inr (by omega))); (replace ho := (((ho.alloc _).alloc _).drew).fr fa (.inr (by omega))); clear hcX hFX bBX fa hca; (have y0 := bB.cell 0); (have y1 := bB.cell 1); (have y2 := bB.cell 2); (simp at y0 y1 y2))
        | (go_at_call 108; (have b6 : Bk ((w4.alloc (Obj.cells #[.slice none 0 0, .slice none 0 0] 53 (0, 0))).alloc (Obj.cells #[.int .i64 0, .int .i64 0, .slice none 0 0] 26 (0, 0))).drew w4.heap.size 53 #[.slice none 0 0, .slice none 0 0] := (Bk.new w4 _ _).alloc _); (have b5 : Bk ((w4.alloc (Obj.cells #[.slice none 0 0, .slice none 0 0] 53 (0, 0))).alloc (Obj.cells #[.int .i64 0, .int .i64 0, .slice none 0 0] 26 (0, 0))).drew (w4.heap.size + 1) 26 #[.int .i64 0, .int .i64 0, .slice none 0 0] := Bk.new2 w4 _ _ _); (have hcX : Cur ((w4.alloc (Obj.cells #[.slice none 0 0, .slice none 0 0] 53 (0, 0))).alloc (Obj.cells #[.int .i64 0, .int .i64 0, .slice none 0 0] 26 (0, 0))).drew g (N + 300) := ((hc.alloc _).alloc _).drew); (have hFX : Fr g (g + 1) w4 ((w4.alloc (Obj.cells #[.slice none 0 0, .slice none 0 0] 53 (0, 0))).alloc (Obj.cells #[.int .i64 0, .int .i64 0, .slice none 0 0] 26 (0, 0))).drew := ((hF.alloc _).alloc _).drew); (have bBX : Bk ((w4.alloc (Obj.cells #[.slice none 0 0, .slice none 0 0] 53 (0, 0))).alloc (Obj.cells #[.int .i64 0, .int .i64 0, .slice none 0 0] 26 (0, 0))).drew w3.heap.size 26 #[.int .i64 key, .int .i64 pages, .slice A us.length c] := ((bB.alloc _).alloc _).drew); ((with_reducible refine (clearSignals_any g (N + 300) 60 ((w4.alloc (Obj.cells #[.slice none 0 0, .slice none 0 0] 53 (0, 0))).alloc (Obj.cells #[.int .i64 0, .int .i64 0, .slice none 0 0] 26 (0, 0))).drew hcX (by omega) (by omega)).mono ?_); rintro e wa ⟨ss, Aa, ca, rfl, hla, oa, hca, fa⟩); (have sa : w4.heap.size + 2 ≤ wa.heap.size := by have := fa.size; simpa using this); clear hc hF bB y0 y1 y2; (have hc := hca); (have hF := hFX.trans fa); (have bB := bBX.fr fa (.inr hgB)); (replace b6 := b6.fr fa (.inr (by omega))); (replace b5 := b5.fr fa (.inr (by omega))); (replace ho := (((ho.alloc _).alloc _).drew).fr fa (.inr (by omega))); clear hcX hFX bBX fa hca; (have y0 := bB.cell 0); (have y1 := bB.cell 1); (have y2 := bB.cell 2); (simp at y0 y1 y2))
        | (go_at_call 157; ((with_reducible refine (sHideMessage_o key pages us A c ss Aa ca wa ho.rd' oa.rd' (by omega) (by omega) oa.len.2).mono ?_); rintro e wb ⟨A9, c9, B9, d9, C9, f9, m9, rfl, -, o5, o6, hm1, hm2, -, -, -, bb⟩); (have sb : wa.heap.size + 0 ≤ wb.heap.size := by have := bb.size; simpa using this); (have mb : wa.heap.size + 0 ≤ m9 := by simpa using hm2); (replace hc := (hc).st bb); (replace hF := (hF).then_below bb (by first | omega | (simp <;> omega))); (replace bB := (bB).st bb); clear y0 y1 y2; (have y0 := bB.cell 0); (have y1 := bB.cell 1); (have y2 := bB.cell 2); (simp at y0 y1 y2); (try (replace b5 := (b5).st bb)); (try (replace b6 := (b6).st bb)); clear bb hm2; (try ((have u0 : _ = some (Value.int .i64 0) := b5.cell 0); (have v0 := b5.frozen 0); (have u1 : _ = some (Value.int .i64 0) := b5.cell 1); (have v1 := b5.frozen 1); (have u2 : _ = some (Value.slice none 0 0) := b5.cell 2); (have v2 := b5.frozen 2); (have xl5 := b5.lt))); (try ((have p0 : _ = some (Value.slice none 0 0) := b6.cell 0); (have q0 := b6.frozen 0); (have p1 : _ = some (Value.slice none 0 0) := b6.cell 1); (have q1 := b6.frozen 1); (have xl6 := b6.lt))))
        | (go_at_call 157; (have b5 : Bk (wa.alloc (Obj.cells #[.int .i64 0, .int .i64 0, .slice none 0 0] 26 (0, 0))) wa.heap.size 26 #[.int .i64 0, .int .i64 0, .slice none 0 0] := Bk.new wa _ _); ((with_reducible refine (sHideMessage_o key pages us A c ss Aa ca (wa.alloc (Obj.cells #[.int .i64 0, .int .i64 0, .slice none 0 0] 26 (0, 0))) (ho.alloc _).rd' (oa.alloc _).rd' (by omega) (by omega) oa.len.2).mono ?_); rintro e wb ⟨A9, c9, B9, d9, C9, f9, m9, rfl, -, o5, o6, hm1, hm2, -, -, -, bb⟩); (have sb : wa.heap.size + 1 ≤ wb.heap.size := by have := bb.size; simpa using this); (have mb : wa.heap.size + 1 ≤ m9 := by simpa using hm2); (rw [show (wa.alloc (Obj.cells #[.int .i64 0, .int .i64 0, .slice none 0 0] 26 (0, 0))).heap.size = wa.heap.size + 1 by simp] at o5); (replace hc := ((hc.alloc _)).st bb); (replace hF := ((hF.alloc _)).then_below bb (by first | omega | (simp <;> omega))); (replace bB := ((bB.alloc _)).st bb); clear y0 y1 y2; (have y0 := bB.cell 0); (have y1 := bB.cell 1); (have y2 := bB.cell 2); (simp at y0 y1 y2); (replace b5 := b5.st bb); (try (replace b6 := ((b6.alloc _)).st bb)); clear bb hm2; (try ((have u0 : _ = some (Value.int .i64 0) := b5.cell 0); (have v0 := b5.frozen 0); (have u1 : _ = some (Value.int .i64 0) := b5.cell 1); (have v1 := b5.frozen 1); (have u2 : _ = some (Value.slice none 0 0) := b5.cell 2); (have v2 := b5.frozen 2); (have xl5 := b5.lt))); (try ((have p0 : _ = some (Value.slice none 0 0) := b6.cell 0); (have q0 := b6.frozen 0); (have p1 : _ = some (Value.slice none 0 0) := b6.cell 1); (have q1 := b6.frozen 1); (have xl6 := b6.lt))))
        | (go_at_call 157; (have b6 : Bk (wa.alloc (Obj.cells #[.slice none 0 0, .slice none 0 0] 53 (0, 0))) wa.heap.size 53 #[.slice none 0 0, .slice none 0 0] := Bk.new wa _ _); ((with_reducible refine (sHideMessage_o key pages us A c ss Aa ca (wa.alloc (Obj.cells #[.slice none 0 0, .slice none 0 0] 53 (0, 0))) (ho.alloc _).rd' (oa.alloc _).rd' (by omega) (by omega) oa.len.2).mono ?_); rintro e wb ⟨A9, c9, B9, d9, C9, f9, m9, rfl, -, o5, o6, hm1, hm2, -, -, -, bb⟩); (have sb : wa.heap.size + 1 ≤ wb.heap.size := by have := bb.size; simpa using this); (have mb : wa.heap.size + 1 ≤ m9 := by simpa using hm2); (rw [show (wa.alloc (Obj.cells #[.slice none 0 0, .slice none 0 0] 53 (0, 0))).heap.size = wa.heap.size + 1 by simp] at o5); (replace hc := ((hc.alloc _)).st bb); (replace hF := ((hF.alloc _)).then_below bb (by first | omega | (simp <;> omega))); (replace bB := ((bB.alloc _)).st bb); clear y0 y1 y2; (have y0 := bB.cell 0); (have y1 := bB.cell 1); (have y2 := bB.cell 2); (simp at y0 y1 y2); (try (replace b5 := ((b5.alloc _)).st bb)); (replace b6 := b6.st bb); clear bb hm2; (try ((have u0 : _ = some (Value.int .i64 0) := b5.cell 0); (have v0 := b5.frozen 0); (have u1 : _ = some (Value.int .i64 0) := b5.cell 1); (have v1 := b5.frozen 1); (have u2 : _ = some (Value.slice none 0 0) := b5.cell 2); (have v2 := b5.frozen 2); (have xl5 := b5.lt))); (try ((have p0 : _ = some (Value.slice none 0 0) := b6.cell 0); (have q0 := b6.frozen 0); (have p1 : _ = some (Value.slice none 0 0) := b6.cell 1); (have q1 := b6.frozen 1); (have xl6 := b6.lt))))
        | (go_at_call 157; (have b5 : Bk ((wa.alloc (Obj.cells #[.int .i64 0, .int .i64 0, .slice none 0 0] 26 (0, 0))).alloc (Obj.cells #[.slice none 0 0, .slice none 0 0] 53 (0, 0))) wa.heap.size 26 #[.int .i64 0, .int .i64 0, .slice none 0 0] := (Bk.new wa _ _).alloc _); (have b6 : Bk ((wa.alloc (Obj.cells #[.int .i64 0, .int .i64 0, .slice none 0 0] 26 (0, 0))).alloc (Obj.cells #[.slice none 0 0, .slice none 0 0] 53 (0, 0))) (wa.heap.size + 1) 53 #[.slice none 0 0, .slice none 0 0] := Bk.new2 wa _ _ _); ((with_reducible refine (sHideMessage_o key pages us A c ss Aa ca ((wa.alloc (Obj.cells #[.int .i64 0, .int .i64 0, .slice none 0 0] 26 (0, 0))).alloc (Obj.cells #[.slice none 0 0, .slice none 0 0] 53 (0, 0))) ((ho.alloc _).alloc _).rd' ((oa.alloc _).alloc _).rd' (by omega) (by omega) oa.len.2).mono ?_); rintro e wb ⟨A9, c9, B9, d9, C9, f9, m9, rfl, -, o5, o6, hm1, hm2, -, -, -, bb⟩); (have sb : wa.heap.size + 2 ≤ wb.heap.size := by have := bb.size; simpa using this); (have mb : wa.heap.size + 2 ≤ m9 := by simpa using hm2); (rw [show ((wa.alloc (Obj.cells #[.int .i64 0, .int .i64 0, .slice none 0 0] 26 (0, 0))).alloc (Obj.cells #[.slice none 0 0, .slice none 0 0] 53 (0, 0))).heap.size = wa.heap.size + 2 by simp] at o5); (replace hc := (((hc.alloc _).alloc _)).st bb); (replace hF := (((hF.alloc _).alloc _)).then_below bb (by first | omega | (simp <;> omega))); (replace bB := (((bB.alloc _).alloc _)).st bb); clear y0 y1 y2; (have y0 := bB.cell 0); (have y1 := bB.cell 1); (have y2 := bB.cell 2); (simp at y0 y1 y2); (replace b5 := b5.st bb); (replace b6 := b6.st bb); clear bb hm2; (try ((have u0 : _ = some (Value.int .i64 0) := b5.cell 0); (have v0 := b5.frozen 0); (have u1 : _ = some (Value.int .i64 0) := b5.cell 1); (have v1 := b5.frozen 1); (have u2 : _ = some (Value.slice none 0 0) := b5.cell 2); (have v2 := b5.frozen 2); (have xl5 := b5.lt))); (try ((have p0 : _ = some (Value.slice none 0 0) := b6.cell 0); (have q0 := b6.frozen 0); (have p1 : _ = some (Value.slice none 0 0) := b6.cell 1); (have q1 := b6.frozen 1); (have xl6 := b6.lt))))
        | (go_at_call 157; (have b6 : Bk ((wa.alloc (Obj.cells #[.slice none 0 0, .slice none 0 0] 53 (0, 0))).alloc (Obj.cells #[.int .i64 0, .int .i64 0, .slice none 0 0] 26 (0, 0))) wa.heap.size 53 #[.slice none 0 0, .slice none 0 0] := (Bk.new wa _ _).alloc _); (have b5 : Bk ((wa.alloc (Obj.cells #[.slice none 0 0, .slice none 0 0] 53 (0, 0))).alloc (Obj.cells #[.int .i64 0, .int .i64 0, .slice none 0 0] 26 (0, 0))) (wa.heap.size + 1) 26 #[.int .i64 0, .int .i64 0, .slice none 0 0] := Bk.new2 wa _ _ _); ((with_reducible refine (sHideMessage_o key pages us A c ss Aa ca ((wa.alloc (Obj.cells #[.slice none 0 0, .slice none 0 0] 53 (0, 0))).alloc (Obj.cells #[.int .i64 0, .int .i64 0, .slice none 0 0] 26 (0, 0))) ((ho.alloc _).alloc _).rd' ((oa.alloc _).alloc _).rd' (by omega) (by omega) oa.len.2).mono ?_); rintro e wb ⟨A9, c9, B9, d9, C9, f9, m9, rfl, -, o5, o6, hm1, hm2, -, -, -, bb⟩); (have sb : wa.heap.size + 2 ≤ wb.heap.size := by have := bb.size; simpa using this); (have mb : wa.heap.size + 2 ≤ m9 := by simpa using hm2); (rw [show ((wa.alloc (Obj.cells #[.slice none 0 0, .slice none 0 0] 53 (0, 0))).alloc (Obj.cells #[.int .i64 0, .int .i64 0, .slice none 0 0] 26 (0, 0))).heap.size = wa.heap.size + 2 by simp] at o5); (replace hc := (((hc.alloc _).alloc _)).st bb); (replace hF := (((hF.alloc _).alloc _)).then_below bb (by first | omega | (simp <;> omega))); (replace bB := (((bB.alloc _).alloc _)).st bb); clear y0 y1 y2; (have y0 := bB.cell 0); (have y1 := bB.cell 1); (have y2 := bB.cell 2); (simp at y0 y1 y2); (replace b5 := b5.st bb); (replace b6 := b6.st bb); clear bb hm2; (try ((have u0 : _ = some (Value.int .i64 0) := b5.cell 0); (have v0 := b5.frozen 0); (have u1 : _ = some (Value.int .i64 0) := b5.cell 1); (have v1 := b5.frozen 1); (have u2 : _ = some (Value.slice none 0 0) := b5.cell 2); (have v2 := b5.frozen 2); (have xl5 := b5.lt))); (try ((have p0 : _ = some (Value.slice none 0 0) := b6.cell 0); (have q0 := b6.frozen 0); (have p1 : _ = some (Value.slice none 0 0) := b6.cell 1); (have q1 := b6.frozen 1); (have xl6 := b6.lt))))
        )
    all_goals (obtain ⟨hp60, hs60⟩ := hm_small key pages us ss)
    all_goals clear y0 y1 y2 bB ho oa sd
    all_goals first
      | (have hall := sec_f5 b5 b6 (.int .i64 (hmK key pages us ss)) (.int .i64 (hmG key pages us ss)) (.slice A9 (hmL key pages us ss).length c9) (.slice B9 (hmP key pages us ss).length d9) (.slice C9 (hmS key pages us ss).length f9) o5 o6 hc hF (by omega) (by omega) (by omega) (by omega) (by omega) (by omega) (by omega) (by omega) (by omega); clear o5 o6 hc hF; (try clear b5); (try clear b6); go_wp2_with fail; go_meet; case rel => exact ⟨_, _, _, _, B9, d9, C9, f9, _, _, m9, _, rfl, rfl, rfl, hall.out.1, hall.out.2.1, hall.out.2.2.1, ⟨by omega, by omega, hm1, hall.out.2.2.2.2.2, by omega, by omega, hp60, hs60⟩, hall.out.2.2.2.1.le (by omega), hall.out.2.2.2.2.1⟩)
      | (have hall := sec_f3 b5 (.int .i64 (hmK key pages us ss)) (.int .i64 (hmG key pages us ss)) (.slice A9 (hmL key pages us ss).length c9) (.slice B9 (hmP key pages us ss).length d9) (.slice C9 (hmS key pages us ss).length f9) o5 o6 hc hF (by omega) (by omega) (by omega) (by omega) (by omega) (by omega) (by omega); clear o5 o6 hc hF; (try clear b5); (try clear b6); go_wp2_with fail; go_meet; case rel => exact ⟨_, _, _, _, B9, d9, C9, f9, _, _, m9, _, rfl, rfl, rfl, hall.out.1, hall.out.2.1, hall.out.2.2.1, ⟨by omega, by omega, hm1, hall.out.2.2.2.2.2, by omega, by omega, hp60, hs60⟩, hall.out.2.2.2.1.le (by omega), hall.out.2.2.2.2.1⟩)
      | (have hall := sec_f4 b6 (.int .i64 (hmK key pages us ss)) (.int .i64 (hmG key pages us ss)) (.slice A9 (hmL key pages us ss).length c9) (.slice B9 (hmP key pages us ss).length d9) (.slice C9 (hmS key pages us ss).length f9) o5 o6 hc hF (by omega) (by omega) (by omega) (by omega) (by omega) (by omega); clear o5 o6 hc hF; (try clear b5); (try clear b6); go_wp2_with fail; go_meet; case rel => exact ⟨_, _, _, _, B9, d9, C9, f9, _, _, m9, _, rfl, rfl, rfl, hall.out.1, hall.out.2.1, hall.out.2.2.1, ⟨by omega, by omega, hm1, hall.out.2.2.2.2.2, by omega, by omega, hp60, hs60⟩, hall.out.2.2.2.1.le (by omega), hall.out.2.2.2.2.1⟩)
      | (have hall := sec_f1 (.int .i64 (hmK key pages us ss)) (.int .i64 (hmG key pages us ss)) (.slice A9 (hmL key pages us ss).length c9) (.slice B9 (hmP key pages us ss).length d9) (.slice C9 (hmS key pages us ss).length f9) o5 o6 hc hF (by omega) (by omega) (by omega) (by omega); clear o5 o6 hc hF; (try clear b5); (try clear b6); go_wp2_with fail; go_meet; case rel => exact ⟨_, _, _, _, B9, d9, C9, f9, _, _, m9, _, rfl, rfl, rfl, hall.out.1, hall.out.2.1, hall.out.2.2.1, ⟨by omega, by omega, hm1, hall.out.2.2.2.2.2, by omega, by omega, hp60, hs60⟩, hall.out.2.2.2.1.le (by omega), hall.out.2.2.2.2.1⟩)
      | (have hall := sec_f2 (.int .i64 (hmK key pages us ss)) (.int .i64 (hmG key pages us ss)) (.slice A9 (hmL key pages us ss).length c9) (.slice B9 (hmP key pages us ss).length d9) (.slice C9 (hmS key pages us ss).length f9) o5 o6 hc hF (by omega) (by omega) (by omega) (by omega); clear o5 o6 hc hF; (try clear b5); (try clear b6); go_wp2_with fail; go_meet; case rel => exact ⟨_, _, _, _, B9, d9, C9, f9, _, _, m9, _, rfl, rfl, rfl, hall.out.1, hall.out.2.1, hall.out.2.2.1, ⟨by omega, by omega, hm1, hall.out.2.2.2.2.2, by omega, by omega, hp60, hs60⟩, hall.out.2.2.2.1.le (by omega), hall.out.2.2.2.2.1⟩)
  case rest =>
    clear hc
    obtain ⟨G5, G6, P, S, B, d, C, f, v, l1, h1, h2, rfl, rfl, rfl, b6, o5, o6, ⟨q1, q2, q3, q4, q5, q6, q7, q8⟩, hc', hF'⟩ := hcut
    obtain ⟨wx, rfl⟩ : ∃ u, u = wc := ⟨_, rfl⟩
    have hsz4 := bB.lt
    have hx : SecO w g (N + 540) (w3.heap.size) G6 l1 h1 h1 h2 key pages us P S A B C c d f wx := ⟨b6, o5, o6, bB.fr hF' (by omega), (ho.mono (show w.heap.size + 2 ≤ _ by omega) (Nat.le_refl _)).fr hF' (by omega), bZ.fr hF' (by omega), bY.fr hF' (by omega), hc', hF.trans hF', by omega⟩
    have sx := hx.fr.size
    have hG6 := hx.bS.lt
    clear bB ho bZ bY hF hF' hc' b6 o5 o6 q1 q2 q3 q4 q5 q7 q8 hsz4 hpg
    go_upto_if 19 with fail
    go_cut [] (fun wq => ∃ (P S : List Int) (B C : Option Addr) (d f l1 h1 l2 h2 : Nat), SecO w g (N + 544) (w3.heap.size) G6 l1 h1 l2 h2 key pages us P S A B C c d f wq)
    case first =>
      cases v with
      | true =>
        have hxH := Lib.hid (hx.le (show N + 540 ≤ N + 544 by omega))
        clear hx
        go_wp2_with fail
        go_meet
        case rel => exact ⟨_, _, _, _, _, _, _, _, _, _, hxH.out⟩
      | false =>
        go_wp2_with fail
        (with_reducible refine (pick_any g (N + 540) 60 _ hx.cur (by omega) (by omega)).mono ?_)
        rintro e w5 ⟨x, rfl, hxp, hcn, fa, za⟩
        have s5 : wx.heap.size ≤ w5.heap.size := fa.size
        replace hx := hx.frc fa hcn
        clear hcn fa za
        clear hxp
        obtain ⟨wb, hwb⟩ : ∃ u, u = w5.alloc (.cells #[.int .i64 x] 3) := ⟨_, rfl⟩
        have sb : w5.heap.size + 1 = wb.heap.size := by rw [hwb]; simp
        have ob : Own wb w5.heap.size wb.heap.size (.slice (some ⟨w5.heap.size, 0, none⟩) 1 1) [x] := by rw [hwb]; exact Own.made w5 [x] _ rfl (by simp [maxLen]) (Nat.le_refl _) (by simp)
        replace hx := hx.alloc (.cells #[.int .i64 x] 3)
        rw [← hwb] at hx
        go_wp2_with fail
        rw [← hwb]
        clear hwb
        have sbH := Lib.hid sb
        have sb2 : w5.heap.size + 1 ≤ wb.heap.size := by omega
        have hgw := hx.num.1.1
        clear sb
        skip
        (with_reducible refine (pick_any g (N + 542) 60 _ hx.cur (by omega) (by omega)).mono ?_)
        rintro e w6 ⟨y, rfl, hyp, hcn, fa, za⟩
        have s6 : wb.heap.size ≤ w6.heap.size := fa.size
        replace hx := hx.frc fa hcn
        replace ob := ob.fr fa (.inr (by omega))
        clear hcn fa za
        have v1 : IntKind.i64.wrap (1 + y) = 1 + y := IntWalk.i64_in _ (by omega)
        have v1' : wrap64 (1 + y) = 1 + y := IntWalk.wrap64_in _ (by omega)
        have bSH := hx.bS
        have hG6c := bSH.lt
        have x0 := bSH.cell 0
        have x1 := bSH.cell 1
        have u0 := bSH.frozen 0
        have u1 := bSH.frozen 1
        simp at x0 x1
        have o2 := Own.made (lo := w6.heap.size) (hi := w6.heap.size + 1) w6 [1 + y, 5] #[.int .i64 (1 + y), .int .i64 5] rfl (by simp [maxLen]) (Nat.le_refl _) (by omega)
        have hxF := Lib.hid (hx.renewA (P2 := [x]) (S2 := [1 + y, 5]) (ob.alloc _) o2 ⟨by omega, by omega, by omega⟩ ⟨by omega, by omega, by omega⟩ (.inl (by omega)) (by simp) (by simp))
        clear hx ob o2 bSH hyp
        go_wp2_with fail
        go_meet
        case rel => exact ⟨_, _, _, _, _, _, _, _, _, _, hxF.out⟩
    case rest =>
      clear hx
      obtain ⟨P, S, B, C, d, f, l1, h1, l2, h2, hx⟩ := hcut
      obtain ⟨wy, rfl⟩ : ∃ u, u = wc := ⟨_, rfl⟩
      have sx := hx.fr.size
      go_wp2_with fail
      (with_reducible refine (pick_any g (N + 544) 24 _ hx.cur (by omega) (by omega)).mono ?_)
      rintro e w7 ⟨x, rfl, hxp, hcn, fa, za⟩
      have s7 : wy.heap.size ≤ w7.heap.size := fa.size
      replace hx := hx.frc fa hcn
      clear hcn fa za
      have hx0 : 0 ≤ x := hxp.1
      clear hxp
      have hgw := hx.num.1.1
      go_upto_block 0 with fail
      go_cut [] (fun wq => ∃ (P S : List Int) (B C : Option Addr) (d f : Nat), SecR w g (N + 560) (w3.heap.size) G6 key pages us P S A B C c d f wq)
      case first =>
        rcases (show x = 0 ∨ x = 1 ∨ x = 2 ∨ x = 3 ∨ 4 ≤ x by omega) with rfl | rfl | rfl | rfl | hx4
        · have hP60 : P.length ≤ 60 := hx.num.2.2.2.2.2.2.1
          have hxx := (hx.alloc (.cells #[.int .i64 0, .int .i64 59, .int .i64 60, .int .i64 (-1)] 3)).drew
          have rx : Rd (w7.alloc (.cells #[.int .i64 0, .int .i64 59, .int .i64 60, .int .i64 (-1)] 3)).drew w7.heap.size (w7.heap.size + 1) (some ⟨w7.heap.size, 0, none⟩) [0, 59, 60, -1] := (Rd.one w7 _ _ [0, 59, 60, -1] rfl).drew
          have bS0 := hx.bS
          have y0 := bS0.cell 0
          have yl := bS0.lt
          simp at y0
          have hg2 : g + 1 ≤ w7.heap.size := by omega
          go_wp2_with fail
          go_region_law (first
            | (refine step_append_ints rfl (.tmp 33) (.tmp 37) rfl (v := .slice B P.length d) rfl (by first | exact (h12.alloc _).oP | exact (h12.alloc _).drew.oP) (ys := [kk]) rfl (by first | exact (Rd.one w12 _ _ _ rfl).mono (Nat.zero_le _) (by simp) | exact ((Rd.one w12 _ _ _ rfl).drew).mono (Nat.zero_le _) (by simp)) (by simp; omega) (by first | omega | (simp <;> omega)) ?_; intro v8 w8 ho8 hg8 hb8 hat8; (obtain ⟨B8, d8, rfl, -, -⟩ := ho8.rd); (obtain ⟨P8, hP8⟩ : ∃ u, u = P ++ [kk] := ⟨_, rfl⟩); (have hl8 : P8.length ≤ 61 := by rw [hP8]; simp; omega); (have hl9 : P8.length = P.length + 1 := by rw [hP8]; simp); (have hl9H := Lib.hid hl9); clear hl9; rw [← hP8] at ho8 hat8 ⊢;
                (have hR := (h12.alloc (.cells #[.int .i64 kk] 3)).appP ho8 hg8 hat8 hl8 (Nat.le_refl _)); (have z0 := hR.2.cell 0); (have f0 := hR.2.frozen 0); (have zl := hR.2.lt); (simp at z0))
            | (go_simp; (go_at_call 122; ((with_reducible refine (among_any g (N + 546) [0, 59, 60, -1] _ 4 _ _ hxx.cur (by omega) rx rfl (by simp) (by simp) (.inr (by omega))).mono ?_); rintro e w12 ⟨kk, rfl, hkk, hcn, fa, za⟩); clear za; (have h12 := hxx.frc fa hcn); (have s12 : w7.heap.size + 1 ≤ w12.heap.size := by have := fa.size; simp at this; omega); (have bS1 := h12.bS); (have xe := bS1.cell 0); (have xl12 := bS1.lt); (have hn12 := h12.num); (simp at xe))))
          all_goals
            have hxH := Lib.hid (hR.1.le (show _ ≤ N + 560 by omega))
            clear hx hxx rx bS0 y0 yl h12 fa hcn bS1 xe xl12 hkk hR ho8 hg8 hat8 hb8 hP8 hl8 hn12
            go_wp2_with fail
            go_meet
            case rel => (have h9 := hxH.out; rw [hl9H.out] at h9; exact ⟨_, _, _, _, _, _, h9⟩)
        · by_cases hp : 0 < P.length
          · have hp1 : (0 : Int) < (P.length : Int) := by omega
            obtain ⟨gg, cc, he, hg1, hg3, hg2, hcell, -⟩ := hx.oP.at_ hp
            have he2 : B = some ⟨gg, 0, none⟩ := by injection he with e1 e2 e3
            subst he2
            clear he
            obtain ⟨n, hn⟩ : ∃ n, n = P.length := ⟨_, rfl⟩
            have hnH := Lib.hid hn
            have hn1 : 1 ≤ n ∧ n ≤ 60 := by have := hx.num; omega
            have y0 : w7.drew.cell? ⟨G6, 0, none⟩ = some (.slice (some ⟨gg, 0, none⟩) P.length d) := hx.bS.cell 0
            have y0a := hx.bS.cell 0
            simp at y0a
            rw [← hn] at y0 y0a hp1
            have yl := hx.bS.lt
            have x9 : w7.drew.cell? ⟨gg, n - 1, none⟩ = some (.int .i64 (P[n - 1]'(by omega))) := hcell (n - 1) (by omega)
            obtain ⟨pl, hpl⟩ : ∃ u, u = (P[n - 1]'(by omega)) := ⟨_, rfl⟩
            rw [← hpl] at x9
            clear hcell hpl hn
            have i0 : (1 : Int) ≤ (n : Int) := by omega
            have i1 : (n : Int) - 1 < (n : Int) := by omega
            have i2 : ((n : Int) - 1).toNat = n - 1 := by omega
            have i3 : IntKind.i64.wrap ((n : Int) - 1) = (n : Int) - 1 := IntWalk.i64_in _ (by omega)
            have ggl := hg2
            have hxx := (hx.alloc (.cells #[.int .i64 (-1), .int .i64 59, .int .i64 60, .int .i64 pl] 3)).drew
            have rx : Rd (w7.alloc (.cells #[.int .i64 (-1), .int .i64 59, .int .i64 60, .int .i64 pl] 3)).drew w7.heap.size (w7.heap.size + 1) (some ⟨w7.heap.size, 0, none⟩) [-1, 59, 60, pl] := (Rd.one w7 _ _ [-1, 59, 60, pl] rfl).drew
            have hgA : g + 1 ≤ w7.heap.size := by omega
            have hxn := hx.num
            go_wp2_with fail
            go_region_law
              (first | (go_simp; (go_at_call 122; ((with_reducible refine (among_any g (N + 546) [-1, 59, 60, pl] _ 4 _ _ hxx.cur (by omega) rx rfl (by simp) (by simp) (.inr (by omega))).mono ?_); rintro e w12 ⟨kk, rfl, hkk, hcn, fa, za⟩); clear za; (have h12 := hxx.frc fa hcn); (have xe := h12.bS.cell 0); (simp at xe); rw [← hnH.out] at xe; (have xl12 := h12.bS.lt); (have x0 := h12.oP.at2 hp); (obtain ⟨x0, x1, -, -, x2⟩ := x0))))
            all_goals
              have hxH := Lib.hid (h12.setP hp kk (show _ ≤ N + 560 by omega))
              clear hx hxx rx y0 y0a yl h12 fa hcn xe hkk x9 i0 i1 i2 i3
              go_wp2_with fail
              go_meet
              case rel => exact ⟨_, _, _, _, _, _, hxH.out⟩
          · have hp1 : ¬ ((0 : Int) < (P.length : Int)) := by omega
            have hxH := Lib.hid (hx.toR (show _ ≤ N + 560 by omega))
            have y0 := hx.bS.cell 0
            have yl := hx.bS.lt
            simp at y0
            clear hx
            go_wp2_with fail
            go_meet
            case rel => exact ⟨_, _, _, _, _, _, hxH.out⟩
        · by_cases hp : 0 < S.length
          · have hp1 : (0 : Int) < (S.length : Int) := by omega
            obtain ⟨gg, cc, he, hg1, hg3, hg2, -, -⟩ := hx.oS.at_ hp
            have he2 : C = some ⟨gg, 0, none⟩ := by injection he with e1 e2 e3
            subst he2
            clear he
            have y0 : w7.drew.cell? ⟨G6, 1, none⟩ = some (.slice (some ⟨gg, 0, none⟩) S.length f) := hx.bS.cell 1
            have y0a := hx.bS.cell 1
            simp at y0a
            have yl := hx.bS.lt
            have hxx := (hx.alloc (.cells #[.int .i64 0, .int .i64 60, .int .i64 61] 3)).drew
            have rx : Rd (w7.alloc (.cells #[.int .i64 0, .int .i64 60, .int .i64 61] 3)).drew w7.heap.size (w7.heap.size + 1) (some ⟨w7.heap.size, 0, none⟩) [0, 60, 61] := (Rd.one w7 _ _ [0, 60, 61] rfl).drew
            have hgA : g + 1 ≤ w7.heap.size := by omega
            have hxn := hx.num
            go_wp2_with fail
            go_region_held3 (fun w' => w'.cell? ⟨G6, 1, none⟩ = some (.slice (some ⟨gg, 0, none⟩) S.length f)) (((try go_split_ands); (try dsimp only); (repeat' apply And.intro) <;> (repeat' (first | with_reducible assumption | with_reducible refine kp_alloc ?_ | with_reducible refine kp_allocd ?_ | (with_reducible refine kp_set ?_ (by dsimp only; omega))))))
              (first | (go_at_call 122; ((with_reducible refine (among_any g (N + 546) [0, 60, 61] _ 3 _ _ hxx.cur (by omega) rx rfl (by simp) (by simp) (.inr (by omega))).mono ?_); rintro e w12 ⟨kk, rfl, hkk, hcn, fa, za⟩); clear za; (have h12 := hxx.frc fa hcn); (have xe := h12.bS.cell 1); (simp at xe); (have x0 := h12.oS.at2 hp); (obtain ⟨x0, x1, -, -, x2⟩ := x0)))
            all_goals
              have hxH := Lib.hid (h12.setS hp kk (show _ ≤ N + 560 by omega))
              clear hx hxx rx y0 y0a yl h12 fa hcn xe hkk
              go_wp2_with fail
              go_meet
              case rel => exact ⟨_, _, _, _, _, _, hxH.out⟩
          · have hp1 : ¬ ((0 : Int) < (S.length : Int)) := by omega
            have hxH := Lib.hid (hx.toR (show _ ≤ N + 560 by omega))
            have y0 := hx.bS.cell 1
            have yl := hx.bS.lt
            simp at y0
            clear hx
            go_wp2_with fail
            go_meet
            case rel => exact ⟨_, _, _, _, _, _, hxH.out⟩
        · have hS60 : S.length ≤ 60 := hx.num.2.2.2.2.2.2.2
          have ha := hx.alloc (.cells #[.int .i64 7] 3)
          have haH := Lib.hid ha
          have y1 := hx.bS.cell 1
          have yl := hx.bS.lt
          simp at y1
          have hxn := hx.num
          clear ha hx
          go_wp2_with (at_builtin; refine wp_append_ints rfl (.tmp 75) (.tmp 76) (v := .slice C S.length f) rfl rfl haH.out.oS (ys := [7]) rfl ((Rd.one w7 _ _ _ rfl).mono (Nat.zero_le _) (by simp)) (by simp; omega) (by simp; omega) ?_; intro v8 w8 ho8 hg8 hb8 hat8; (obtain ⟨C8, f8, rfl, -, -⟩ := ho8.rd); (obtain ⟨S8, hS8⟩ : ∃ u, u = S ++ [7] := ⟨_, rfl⟩); (have hl8 : S8.length ≤ 61 := by rw [hS8]; simp; omega); rw [← hS8] at ho8 hat8 ⊢; (have hR := haH.out.appS ho8 hg8 hat8 hl8 (Nat.le_refl _)); (have z1 := hR.2.cell 1); (have ff := hR.2.frozen 1); (have zl := hR.2.lt); (simp at z1); (have hxH := Lib.hid (hR.1.le (show _ ≤ N + 560 by omega))); clear hR ho8 hg8 hat8 hb8 hS8)
          go_meet
          case rel => exact ⟨_, _, _, _, _, _, hxH.out⟩
        · have e00 : (x == 0) = false := by simp; omega
          have e10 : (x == 1) = false := by simp; omega
          have e20 : (x == 2) = false := by simp; omega
          have e30 : (x == 3) = false := by simp; omega
          have hxH := Lib.hid (hx.toR (show _ ≤ N + 560 by omega))
          clear hx
          go_wp2_with fail
          go_meet
          case rel => exact ⟨_, _, _, _, _, _, hxH.out⟩
      case rest =>
        clear hx
        obtain ⟨P, S, B, C, d, f, hx⟩ := hcut
        obtain ⟨wz, rfl⟩ : ∃ u, u = wc := ⟨_, rfl⟩
        have b1 := hx.bK
        have b2 := hx.bS
        have b3 := hx.bZ
        have b4 := hx.bY
        have x0 := b1.cell 0
        have x1 := b1.cell 1
        have x2 := b1.cell 2
        simp at x0 x1 x2
        have xl := b1.lt
        have y0 := b2.cell 0
        have y1 := b2.cell 1
        simp at y0 y1
        have yl := b2.lt
        have z0 := b3.cell 0
        have z1 := b3.cell 1
        have z2 := b3.cell 2
        simp at z0 z1 z2
        have zl := b3.lt
        have t0 := b4.cell 0
        have t1 := b4.cell 1
        simp at t0 t1
        have tl := b4.lt
        have p0 := b3.frozen 0
        have p1 := b3.frozen 1
        have p2 := b3.frozen 2
        have q0 := b4.frozen 0
        have q1 := b4.frozen 1
        have hxH := Lib.hid hx
        have hn := hx.num
        clear hx b1 b2 b3 b4
        have ho := Lib.hid hxH.out.put
        go_wp2_with fail
        go_region
        all_goals (go_wp2_with fail)
        refine bodyPost_ret (v := .tuple #[.agg #[.int .i64 key, .int .i64 pages, .slice A us.length c], .agg #[.slice B P.length d, .slice C S.length f]]) (by simp [results, Tryz.results114, go_sem, z0, z1, z2, t0, t1]) rfl ?_
        have h9 := ho.out
        exact ⟨key, pages, us, P, S, A, c, B, d, C, f, w.heap.size + 2, w3.heap.size, rfl, ⟨hus, hn.2⟩, h9.1.drew, h9.2.1.drew, h9.2.2.1.drew, ⟨by omega, by simp only [World.size_drew, size_setCell]; omega⟩, (h9.2.2.2.1.le (by omega)).drew, h9.2.2.2.2.drew⟩
end Go.Proofs.YtjhbffndiaggmaaGreatDoor
