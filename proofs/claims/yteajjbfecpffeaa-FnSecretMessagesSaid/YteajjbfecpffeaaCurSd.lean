/-
  Contracts of the drawn secrets' laws. The conditions are bounds on how often the cursor has been asked.
-/
import Derived.Test.YteajjbfecpffeaaCurS
import Derived.Test.YteajjbfecpffeaaCurP
import Derived.Test.YteajjbfecpffeaaRecv
namespace Go.Proofs.Yteajjbfecpffeaa
open Go.RowKit Go.ChangeShapes Go.WideShapes
set_option linter.unusedVariables false
set_option linter.unusedSimpArgs false

theorem sec_start {A0 : Option Addr} {n c0 : Nat} {w : World} (hcd : CodeAt w w.heap.size A0 n) (hn : n ≤ 9223372036854775807) (hnc : n ≤ c0) :
    Bk (((w.alloc (.cells #[.int .i64 0, .int .i64 0, .slice none 0 0] 52)).alloc (.cells #[.slice none 0 0, .slice none 0 0] 56)).alloc (.cells #[.slice A0 n c0, .int .i64 0, .int .u64 0] 84)) w.heap.size 52 #[.int .i64 0, .int .i64 0, .slice none 0 0] ∧ Bk (((w.alloc (.cells #[.int .i64 0, .int .i64 0, .slice none 0 0] 52)).alloc (.cells #[.slice none 0 0, .slice none 0 0] 56)).alloc (.cells #[.slice A0 n c0, .int .i64 0, .int .u64 0] 84)) (w.heap.size + 1) 56 #[.slice none 0 0, .slice none 0 0] ∧
    Cur (((w.alloc (.cells #[.int .i64 0, .int .i64 0, .slice none 0 0] 52)).alloc (.cells #[.slice none 0 0, .slice none 0 0] 56)).alloc (.cells #[.slice A0 n c0, .int .i64 0, .int .u64 0] 84)) (w.heap.size + 2) 0 ∧ Below w.heap.size w (((w.alloc (.cells #[.int .i64 0, .int .i64 0, .slice none 0 0] 52)).alloc (.cells #[.slice none 0 0, .slice none 0 0] 56)).alloc (.cells #[.slice A0 n c0, .int .i64 0, .int .u64 0] 84)) ∧ w.heap.size + 3 = (((w.alloc (.cells #[.int .i64 0, .int .i64 0, .slice none 0 0] 52)).alloc (.cells #[.slice none 0 0, .slice none 0 0] 56)).alloc (.cells #[.slice A0 n c0, .int .i64 0, .int .u64 0] 84)).heap.size := by
  have e : ((w.alloc (.cells #[.int .i64 0, .int .i64 0, .slice none 0 0] 52)).alloc (.cells #[.slice none 0 0, .slice none 0 0] 56)).heap.size = w.heap.size + 2 := by simp
  have h := Cur.fresh (c := c0) ((((hcd.alloc (.cells #[.int .i64 0, .int .i64 0, .slice none 0 0] 52)).alloc (.cells #[.slice none 0 0, .slice none 0 0] 56))).up (g' := ((w.alloc (.cells #[.int .i64 0, .int .i64 0, .slice none 0 0] 52)).alloc (.cells #[.slice none 0 0, .slice none 0 0] 56)).heap.size) (by omega)) hn hnc
  rw [e] at h
  exact ⟨((Bk.new w _ _).alloc _).alloc _, (Bk.new2 w _ _ _).alloc _, h, (((Below.refl _ _).alloc (Nat.le_refl _) _).alloc (by simp) _).alloc (by simp; omega) _, by simp⟩
/-- a key book and a secret in boxes, the cursor beside them -/
structure SecD (w0 : World) (N G4 G6 lu hu : Nat) (key pages : Int) (us P S : List Int) (A B C : Option Addr) (c d f : Nat) (wq : World) : Prop where
  bS : Bk wq G6 56 #[.slice B P.length d, .slice C S.length f]
  rP : Rd wq (w0.heap.size + 3) G4 B P
  rS : Rd wq (w0.heap.size + 3) G4 C S
  bK : Bk wq G4 52 #[.int .i64 key, .int .i64 pages, .slice A us.length c]
  ru : Rd wq lu hu A us
  bZ : Bk wq w0.heap.size 52 #[.int .i64 0, .int .i64 0, .slice none 0 0]
  bY : Bk wq (w0.heap.size + 1) 56 #[.slice none 0 0, .slice none 0 0]
  cur : Cur wq (w0.heap.size + 2) N
  bel : Below w0.heap.size w0 wq
  num : (w0.heap.size + 3 ≤ G4 ∧ G4 < G6) ∧ (w0.heap.size + 3 ≤ lu ∧ hu ≤ wq.heap.size) ∧ (us.length ≤ 102 ∧ P.length ≤ 61 ∧ S.length ≤ 61 ∧ P.length ≤ d ∧ S.length ≤ f ∧ us.length ≤ c ∧ c ≤ 9223372036854775807) ∧ ((A = none ∧ c = 0) ∨ ∃ b off, A = some ⟨b, off, none⟩)
section
variable {w0 wq wa : World} {N M G4 G6 lu hu : Nat} {key pages : Int} {us P S : List Int} {A B C : Option Addr} {c d f : Nat}
theorem SecD.keep (h : SecD w0 N G4 G6 lu hu key pages us P S A B C c d f wq) (hc : Cur wa (w0.heap.size + 2) M) (hB : Below w0.heap.size w0 wa) (hs : wq.heap.size ≤ wa.heap.size) (hk : ∀ k, k < wq.heap.size → w0.heap.size ≤ k → k ≠ w0.heap.size + 2 → wa.heap[k]? = wq.heap[k]?) : SecD w0 M G4 G6 lu hu key pages us P S A B C c d f wa := by
  have hn := h.num
  exact ⟨h.bS.keep (hk _ h.bS.lt (by omega) (by omega)), h.rP.keep fun b o a1 a2 a3 => World.cell?_of_block (w := wq) (hk b a3 (by omega) (by omega)), h.rS.keep fun b o a1 a2 a3 => World.cell?_of_block (w := wq) (hk b a3 (by omega) (by omega)), h.bK.keep (hk _ h.bK.lt (by omega) (by omega)), h.ru.keep fun b o a1 a2 a3 => World.cell?_of_block (w := wq) (hk b a3 (by omega) (by omega)), h.bZ.keep (hk _ h.bZ.lt (by omega) (by omega)), h.bY.keep (hk _ h.bY.lt (by omega) (by omega)), hc, hB, hn.1, by omega, hn.2.2⟩
theorem SecD.frc (h : SecD w0 N G4 G6 lu hu key pages us P S A B C c d f wq) (fa : Fr (w0.heap.size + 2) (w0.heap.size + 2 + 1) wq wa) (hc : Cur wa (w0.heap.size + 2) M) : SecD w0 M G4 G6 lu hu key pages us P S A B C c d f wa :=
  h.keep hc (h.bel.trans (fa.below (by omega) h.bel.size)) fa.size fun k a1 a2 a3 => fa.block k a1 (by omega)
theorem SecD.st (h : SecD w0 N G4 G6 lu hu key pages us P S A B C c d f wq) (hb : Below wq.heap.size wq wa) : SecD w0 N G4 G6 lu hu key pages us P S A B C c d f wa :=
  h.keep (h.cur.st hb) (h.bel.trans (hb.mono h.bel.size)) hb.size fun k a1 _ _ => hb.block k a1
theorem SecD.alloc (h : SecD w0 N G4 G6 lu hu key pages us P S A B C c d f wq) (o : Obj) : SecD w0 N G4 G6 lu hu key pages us P S A B C c d f (wq.alloc o) := h.st ((Below.refl _ _).alloc (Nat.le_refl _) o)
theorem SecD.drew (h : SecD w0 N G4 G6 lu hu key pages us P S A B C c d f wq) : SecD w0 N G4 G6 lu hu key pages us P S A B C c d f wq.drew := h.keep h.cur.drew h.bel.drew (Nat.le_refl _) fun _ _ _ _ => rfl
theorem SecD.setPages (h : SecD w0 N G4 G6 lu hu key pages us P S A B C c d f wq) (hd : hu ≤ G4) (kk : Int) : SecD w0 N G4 G6 lu hu key kk us P S A B C c d f (wq.setCell ⟨G4, 1, none⟩ (.int .i64 kk)) := by
  have hn := h.num
  refine ⟨h.bS.far (by dsimp only; omega) _, h.rP.setCell (by dsimp only; omega) _, h.rS.setCell (by dsimp only; omega) _, by simpa using h.bK.set_ 1 (.int .i64 kk), h.ru.setCell (by dsimp only; omega) _, h.bZ.far (by dsimp only; omega) _, h.bY.far (by dsimp only; omega) _, h.cur.setCell (by dsimp only; omega) _, h.bel.setCell (by dsimp only; omega) _, hn.1, ?_, hn.2.2⟩
  rw [size_setCell]; exact hn.2.1
theorem SecD.setUsed {U : List Int} {A' : Option Addr} {c' lu' hu' : Nat} (h : SecD w0 N G4 G6 lu hu key pages us P S A B C c d f wq) (hr : Rd wq lu' hu' A' U) (h1 : w0.heap.size + 3 ≤ lu' ∧ hu' ≤ wq.heap.size) (h2 : hu' ≤ G4 ∨ G4 < lu') (hU : U.length ≤ 102 ∧ U.length ≤ c' ∧ c' ≤ 9223372036854775807) (hA : ∃ b off, A' = some ⟨b, off, none⟩) : SecD w0 N G4 G6 lu' hu' key pages U P S A' B C c' d f (wq.setCell ⟨G4, 2, none⟩ (.slice A' U.length c')) := by
  have hn := h.num
  refine ⟨h.bS.far (by dsimp only; omega) _, h.rP.setCell (by dsimp only; omega) _, h.rS.setCell (by dsimp only; omega) _, by simpa using h.bK.set_ 2 (.slice A' U.length c'), hr.setAny (by dsimp only; omega) _, h.bZ.far (by dsimp only; omega) _, h.bY.far (by dsimp only; omega) _, h.cur.setCell (by dsimp only; omega) _, h.bel.setCell (by dsimp only; omega) _, hn.1, ?_, ⟨hU.1, hn.2.2.1.2.1, hn.2.2.1.2.2.1, hn.2.2.1.2.2.2.1, hn.2.2.1.2.2.2.2.1, hU.2⟩, .inr hA⟩
  rw [size_setCell]; exact h1
theorem SecD.put (h : SecD w0 N G4 G6 lu hu key pages us P S A B C c d f wq) :
    Rd (((((wq.setCell ⟨w0.heap.size, 0, none⟩ (.int .i64 key)).setCell ⟨w0.heap.size, 1, none⟩ (.int .i64 pages)).setCell ⟨w0.heap.size, 2, none⟩ (.slice A us.length c)).setCell ⟨w0.heap.size + 1, 0, none⟩ (.slice B P.length d)).setCell ⟨w0.heap.size + 1, 1, none⟩ (.slice C S.length f)) w0.heap.size (((((wq.setCell ⟨w0.heap.size, 0, none⟩ (.int .i64 key)).setCell ⟨w0.heap.size, 1, none⟩ (.int .i64 pages)).setCell ⟨w0.heap.size, 2, none⟩ (.slice A us.length c)).setCell ⟨w0.heap.size + 1, 0, none⟩ (.slice B P.length d)).setCell ⟨w0.heap.size + 1, 1, none⟩ (.slice C S.length f)).heap.size A us ∧ Rd (((((wq.setCell ⟨w0.heap.size, 0, none⟩ (.int .i64 key)).setCell ⟨w0.heap.size, 1, none⟩ (.int .i64 pages)).setCell ⟨w0.heap.size, 2, none⟩ (.slice A us.length c)).setCell ⟨w0.heap.size + 1, 0, none⟩ (.slice B P.length d)).setCell ⟨w0.heap.size + 1, 1, none⟩ (.slice C S.length f)) w0.heap.size (((((wq.setCell ⟨w0.heap.size, 0, none⟩ (.int .i64 key)).setCell ⟨w0.heap.size, 1, none⟩ (.int .i64 pages)).setCell ⟨w0.heap.size, 2, none⟩ (.slice A us.length c)).setCell ⟨w0.heap.size + 1, 0, none⟩ (.slice B P.length d)).setCell ⟨w0.heap.size + 1, 1, none⟩ (.slice C S.length f)).heap.size B P ∧ Rd (((((wq.setCell ⟨w0.heap.size, 0, none⟩ (.int .i64 key)).setCell ⟨w0.heap.size, 1, none⟩ (.int .i64 pages)).setCell ⟨w0.heap.size, 2, none⟩ (.slice A us.length c)).setCell ⟨w0.heap.size + 1, 0, none⟩ (.slice B P.length d)).setCell ⟨w0.heap.size + 1, 1, none⟩ (.slice C S.length f)) w0.heap.size (((((wq.setCell ⟨w0.heap.size, 0, none⟩ (.int .i64 key)).setCell ⟨w0.heap.size, 1, none⟩ (.int .i64 pages)).setCell ⟨w0.heap.size, 2, none⟩ (.slice A us.length c)).setCell ⟨w0.heap.size + 1, 0, none⟩ (.slice B P.length d)).setCell ⟨w0.heap.size + 1, 1, none⟩ (.slice C S.length f)).heap.size C S ∧ Below w0.heap.size w0 (((((wq.setCell ⟨w0.heap.size, 0, none⟩ (.int .i64 key)).setCell ⟨w0.heap.size, 1, none⟩ (.int .i64 pages)).setCell ⟨w0.heap.size, 2, none⟩ (.slice A us.length c)).setCell ⟨w0.heap.size + 1, 0, none⟩ (.slice B P.length d)).setCell ⟨w0.heap.size + 1, 1, none⟩ (.slice C S.length f)) := by
  have hn := h.num
  have hg := h.bK.lt
  exact ⟨(((((h.ru.setAny (p := ⟨w0.heap.size, 0, none⟩) (by dsimp only; omega) (.int .i64 key)).setAny (p := ⟨w0.heap.size, 1, none⟩) (by dsimp only; omega) (.int .i64 pages)).setAny (p := ⟨w0.heap.size, 2, none⟩) (by dsimp only; omega) (.slice A us.length c)).setAny (p := ⟨w0.heap.size + 1, 0, none⟩) (by dsimp only; omega) (.slice B P.length d)).setAny (p := ⟨w0.heap.size + 1, 1, none⟩) (by dsimp only; omega) (.slice C S.length f)).mono (by omega) (by simp only [size_setCell]; omega), (((((h.rP.setAny (p := ⟨w0.heap.size, 0, none⟩) (by dsimp only; omega) (.int .i64 key)).setAny (p := ⟨w0.heap.size, 1, none⟩) (by dsimp only; omega) (.int .i64 pages)).setAny (p := ⟨w0.heap.size, 2, none⟩) (by dsimp only; omega) (.slice A us.length c)).setAny (p := ⟨w0.heap.size + 1, 0, none⟩) (by dsimp only; omega) (.slice B P.length d)).setAny (p := ⟨w0.heap.size + 1, 1, none⟩) (by dsimp only; omega) (.slice C S.length f)).mono (by omega) (by simp only [size_setCell]; omega), (((((h.rS.setAny (p := ⟨w0.heap.size, 0, none⟩) (by dsimp only; omega) (.int .i64 key)).setAny (p := ⟨w0.heap.size, 1, none⟩) (by dsimp only; omega) (.int .i64 pages)).setAny (p := ⟨w0.heap.size, 2, none⟩) (by dsimp only; omega) (.slice A us.length c)).setAny (p := ⟨w0.heap.size + 1, 0, none⟩) (by dsimp only; omega) (.slice B P.length d)).setAny (p := ⟨w0.heap.size + 1, 1, none⟩) (by dsimp only; omega) (.slice C S.length f)).mono (by omega) (by simp only [size_setCell]; omega), (((((h.bel.setCell (p := ⟨w0.heap.size, 0, none⟩) (by dsimp only; omega) (.int .i64 key)).setCell (p := ⟨w0.heap.size, 1, none⟩) (by dsimp only; omega) (.int .i64 pages)).setCell (p := ⟨w0.heap.size, 2, none⟩) (by dsimp only; omega) (.slice A us.length c)).setCell (p := ⟨w0.heap.size + 1, 0, none⟩) (by dsimp only; omega) (.slice B P.length d)).setCell (p := ⟨w0.heap.size + 1, 1, none⟩) (by dsimp only; omega) (.slice C S.length f))⟩
end
theorem Own.shape {w : World} {lo hi : Nat} {A : Option Addr} {n c : Nat} {zs : List Int} (h : Own w lo hi (.slice A n c) zs) : n ≤ c ∧ c ≤ 9223372036854775807 ∧ ((A = none ∧ c = 0) ∨ ∃ b off, A = some ⟨b, off, none⟩) := by
  have h1 := h.len
  rcases h.1.2 with ⟨he, h0⟩ | ⟨g', cap, cur, he, _, _, hc, hm, _⟩
  · injection he with e1 e2 e3
    exact ⟨h1.2, by omega, .inl ⟨e1, e3⟩⟩
  · injection he with e1 e2 e3
    exact ⟨h1.2, by rw [e3]; simp only [maxLen] at hm; omega, .inr ⟨g', 0, e1⟩⟩
theorem SecD.le {w0 wq : World} {N M G4 G6 lu hu : Nat} {key pages : Int} {us P S : List Int} {A B C : Option Addr} {c d f : Nat} (h : SecD w0 N G4 G6 lu hu key pages us P S A B C c d f wq) (hM : N ≤ M) : SecD w0 M G4 G6 lu hu key pages us P S A B C c d f wq := { h with cur := h.cur.le hM }
set_option maxRecDepth 100000 in
set_option maxHeartbeats 4000000 in
theorem drawHideMessage_any (A0 : Option Addr) (n c0 : Nat) (w : World) (hcd : CodeAt w w.heap.size A0 n) (hn : n ≤ 9223372036854775807) (hnc : n ≤ c0) :
    Calls Try.prog 28 #[.slice A0 n c0] w fun e w' => ∃ (key pages : Int) (us zs : List Int) (A : Option Addr) (c : Nat) (B : Option Addr) (d : Nat), e = .returned (.tuple #[.agg #[.int .i64 key, .int .i64 pages, .slice A us.length c], .slice B zs.length d]) ∧ (us.length ≤ 100 ∧ zs.length ≤ 101 ∧ zs.length ≤ d) ∧ Rd w' w.heap.size w'.heap.size A us ∧ Rd w' w.heap.size w'.heap.size B zs ∧ Below w.heap.size w w' := by
  obtain ⟨w2, hw2⟩ : ∃ u, u = ((w.alloc (.cells #[.int .i64 0, .int .i64 0, .slice none 0 0] 52)).alloc (.cells #[.slice A0 n c0, .int .i64 0, .int .u64 0] 84)) := ⟨_, rfl⟩
  have bZ : Bk w2 w.heap.size 52 #[.int .i64 0, .int .i64 0, .slice none 0 0] := by rw [hw2]; exact (Bk.new w _ _).alloc _
  have hc : Cur w2 (w.heap.size + 1) 0 := by
    have h := Cur.fresh (c := c0) ((hcd.alloc (.cells #[.int .i64 0, .int .i64 0, .slice none 0 0] 52)).up (g' := (w.alloc (.cells #[.int .i64 0, .int .i64 0, .slice none 0 0] 52)).heap.size) (by simp)) hn hnc
    rw [show (w.alloc (.cells #[.int .i64 0, .int .i64 0, .slice none 0 0] 52)).heap.size = w.heap.size + 1 by simp] at h
    rw [hw2]; exact h
  have hB : Below w.heap.size w w2 := by rw [hw2]; exact ((Below.refl _ _).alloc (Nat.le_refl _) _).alloc (by simp) _
  have s2 : w.heap.size + 2 ≤ w2.heap.size := by rw [hw2]; simp
  go_enter Try.func28, Try.ntmps28
  go_wp2_with fail
  rw [← hw2]
  clear hw2
  (with_reducible refine (keyBook_any (w.heap.size + 1) 0 _ hc (by omega)).mono ?_)
  rintro e w3 ⟨key, pages, us, A, c, rfl, -, hus, ou, hcn, fa⟩
  have s3 := fa.size
  replace bZ := bZ.fr fa (by omega)
  replace hB := hB.trans (fa.below (B := w.heap.size) (by omega) (by omega))
  clear hc fa
  have hc := hcn
  clear hcn
  go_wp2_with fail
  (with_reducible refine (clearSignals_any (w.heap.size + 1) (0 + 300) 60 _ hc (by omega) (by omega)).mono ?_)
  rintro e w4 ⟨zs, B, d, rfl, hzs, oz, hcn, fa⟩
  have s4 := fa.size
  replace bZ := bZ.fr fa (by omega)
  replace ou := ou.fr fa (by omega)
  replace hB := hB.trans (fa.below (B := w.heap.size) (by omega) (by omega))
  clear hc fa hcn
  have z0 := bZ.cell 0
  have p0 := bZ.frozen 0
  have z1 := bZ.cell 1
  have p1 := bZ.frozen 1
  have z2 := bZ.cell 2
  have p2 := bZ.frozen 2
  simp at z0 z1 z2
  have zl := bZ.lt
  have hcap := oz.len.2
  have hq : Hid (Rd (((w4.setCell ⟨w.heap.size, 0, none⟩ (.int .i64 key)).setCell ⟨w.heap.size, 1, none⟩ (.int .i64 pages)).setCell ⟨w.heap.size, 2, none⟩ (.slice A us.length c)) w.heap.size w4.heap.size A us ∧ Rd (((w4.setCell ⟨w.heap.size, 0, none⟩ (.int .i64 key)).setCell ⟨w.heap.size, 1, none⟩ (.int .i64 pages)).setCell ⟨w.heap.size, 2, none⟩ (.slice A us.length c)) w.heap.size w4.heap.size B zs ∧ Below w.heap.size w (((w4.setCell ⟨w.heap.size, 0, none⟩ (.int .i64 key)).setCell ⟨w.heap.size, 1, none⟩ (.int .i64 pages)).setCell ⟨w.heap.size, 2, none⟩ (.slice A us.length c))) := Lib.hid ⟨((((ou.rd'.mono (show w.heap.size + 1 ≤ _ by omega) s4).setAny (p := ⟨w.heap.size, 0, none⟩) (by dsimp only; omega) (.int .i64 key)).setAny (p := ⟨w.heap.size, 1, none⟩) (by dsimp only; omega) (.int .i64 pages)).setAny (p := ⟨w.heap.size, 2, none⟩) (by dsimp only; omega) (.slice A us.length c)).mono (by omega) (Nat.le_refl _), ((((oz.rd'.mono (show w.heap.size + 1 ≤ _ by omega) (Nat.le_refl _)).setAny (p := ⟨w.heap.size, 0, none⟩) (by dsimp only; omega) (.int .i64 key)).setAny (p := ⟨w.heap.size, 1, none⟩) (by dsimp only; omega) (.int .i64 pages)).setAny (p := ⟨w.heap.size, 2, none⟩) (by dsimp only; omega) (.slice A us.length c)).mono (by omega) (Nat.le_refl _), (((hB.setCell (p := ⟨w.heap.size, 0, none⟩) (Nat.le_refl _) (.int .i64 key)).setCell (p := ⟨w.heap.size, 1, none⟩) (Nat.le_refl _) (.int .i64 pages)).setCell (p := ⟨w.heap.size, 2, none⟩) (Nat.le_refl _) (.slice A us.length c))⟩
  clear bZ ou oz hB
  go_wp2_with fail
  refine bodyPost_ret (v := .tuple #[.agg #[.int .i64 key, .int .i64 pages, .slice A us.length c], .slice B zs.length d]) (by simp [results, Try.results28, go_sem, z0, z1, z2]) rfl ?_
  exact ⟨key, pages, us, zs, A, c, B, d, rfl, ⟨hus, hzs, hcap⟩, hq.out.1.mono (Nat.le_refl _) (by simp only [size_setCell]; exact Nat.le_refl _), hq.out.2.1.mono (Nat.le_refl _) (by simp only [size_setCell]; exact Nat.le_refl _), hq.out.2.2⟩
set_option maxRecDepth 100000 in
set_option maxHeartbeats 8000000 in
theorem drawOpenSecret_any (A0 : Option Addr) (n c0 : Nat) (w : World) (hcd : CodeAt w w.heap.size A0 n) (hn : n ≤ 9223372036854775807) (hnc : n ≤ c0) :
    Calls Try.prog 78 #[.slice A0 n c0] w fun e w' => ∃ (key pages : Int) (us P S : List Int) (A : Option Addr) (c : Nat) (B : Option Addr) (d : Nat) (C : Option Addr) (f : Nat), e = .returned (.tuple #[.agg #[.int .i64 key, .int .i64 pages, .slice A us.length c], .agg #[.slice B P.length d, .slice C S.length f]]) ∧ (us.length ≤ 101 ∧ P.length ≤ 61 ∧ S.length ≤ 61 ∧ P.length ≤ d ∧ S.length ≤ f ∧ us.length ≤ c ∧ c ≤ 9223372036854775807) ∧ ((A = none ∧ c = 0) ∨ ∃ b off, A = some ⟨b, off, none⟩) ∧ Rd w' w.heap.size w'.heap.size A us ∧ Rd w' w.heap.size w'.heap.size B P ∧ Rd w' w.heap.size w'.heap.size C S ∧ Below w.heap.size w w' := by
  have h0 := sec_start hcd hn hnc
  obtain ⟨w3, hw3⟩ : ∃ u, u = (((w.alloc (.cells #[.int .i64 0, .int .i64 0, .slice none 0 0] 52)).alloc (.cells #[.slice none 0 0, .slice none 0 0] 56)).alloc (.cells #[.slice A0 n c0, .int .i64 0, .int .u64 0] 84)) := ⟨_, rfl⟩
  rw [← hw3] at h0
  obtain ⟨bZ, bY, hc, hB, hs3⟩ := h0
  go_enter Try.func78, Try.ntmps78
  go_wp2_with fail
  rw [← hw3]
  clear hw3
  (with_reducible refine (secret_any (w.heap.size + 2) 0 w3 hc (by omega)).mono ?_)
  rintro e w4 ⟨key, pages, us, P, S, A, c, B, d, C, f, lu, hu, rfl, ⟨a1, a2, a3, a4, a5⟩, ou, rP, rS, ⟨a6, a7⟩, hcn, fa⟩
  have s4 := fa.size
  replace bZ := bZ.fr fa (by omega)
  replace bY := bY.fr fa (by omega)
  replace hB := hB.trans (fa.below (B := w.heap.size) (by omega) (by omega))
  clear hc
  have hc := hcn
  clear hcn fa
  have hsh := ou.shape
  obtain ⟨r1, r2, r3⟩ := hsh
  have hsw : w.heap.size + 3 ≤ w3.heap.size := by omega
  clear hs3
  have hx : SecD w (0 + 600) w4.heap.size (w4.heap.size + 1) w3.heap.size w4.heap.size key pages us P S A B C c d f ((w4.alloc (.cells #[.int .i64 key, .int .i64 pages, .slice A us.length c] 52)).alloc (.cells #[.slice B P.length d, .slice C S.length f] 56)) := ⟨Bk.new2 w4 _ _ _, ((rP.mono (by omega) (Nat.le_refl _)).alloc _).alloc _, ((rS.mono (by omega) (Nat.le_refl _)).alloc _).alloc _, (Bk.new w4 _ _).alloc _, ((ou.rd'.mono a6 a7).alloc _).alloc _, (bZ.alloc _).alloc _, (bY.alloc _).alloc _, (hc.alloc _).alloc _, (hB.alloc (by omega) _).alloc (by simp; omega) _, ⟨by omega, by omega⟩, ⟨by omega, by simp; omega⟩, ⟨by omega, a2, a3, a4, a5, r1, r2⟩, r3⟩
  clear bZ bY hc hB ou rP rS a6 a7
  have hxH := Lib.hid hx
  clear hx
  go_wp2_with fail
  obtain ⟨w5, hw5⟩ : ∃ u, u = ((w4.alloc (.cells #[.int .i64 key, .int .i64 pages, .slice A us.length c] 52)).alloc (.cells #[.slice B P.length d, .slice C S.length f] 56)) := ⟨_, rfl⟩
  have hx := hxH.out
  rw [← hw5] at hx ⊢
  have s5 : w4.heap.size + 2 = w5.heap.size := by rw [hw5]; simp
  have s5H := Lib.hid s5
  have s5b : w4.heap.size + 2 ≤ w5.heap.size := by omega
  clear hxH hw5 s5
  (with_reducible refine (one_any (w.heap.size + 2) (0 + 600) 6 _ hx.cur (by omega) (by omega)).mono ?_)
  rintro e w6 ⟨v, rfl, hcn, fa, za⟩
  have s6 := fa.size
  replace hx := hx.frc fa hcn
  clear hcn fa za
  go_upto_if 16 with fail
  go_cut [] (fun wq => ∃ (pages : Int), SecD w 700 w4.heap.size (w4.heap.size + 1) w3.heap.size w4.heap.size key pages us P S A B C c d f wq)
  case first =>
    cases v with
    | false =>
      have hxH := Lib.hid (hx.le (show _ ≤ 700 by omega))
      clear hx
      go_wp2_with fail
      go_meet
      case rel => exact ⟨pages, hxH.out⟩
    | true =>
      obtain ⟨w7, hw7⟩ : ∃ u, u = w6.alloc (.cells #[.int .i64 1, .int .i64 2, .int .i64 3] 3) := ⟨_, rfl⟩
      have r1x : Rd w7 w6.heap.size (w6.heap.size + 1) (some ⟨w6.heap.size, 0, none⟩) [1, 2, 3] := by rw [hw7]; exact Rd.one _ _ _ _ rfl
      replace hx := hx.alloc (.cells #[.int .i64 1, .int .i64 2, .int .i64 3] 3)
      rw [← hw7] at hx
      have s7 : w6.heap.size + 1 ≤ w7.heap.size := by rw [hw7]; simp
      go_wp2_with fail
      rw [← hw7]
      clear hw7
      (with_reducible refine (among_any (w.heap.size + 2) (0 + 600 + 2) [1, 2, 3] _ 3 _ _ hx.cur (by omega) r1x rfl (by simp) (by simp) (.inr (by omega))).mono ?_)
      rintro e w8 ⟨kk, rfl, -, hcn, fa, za⟩
      have s8 := fa.size
      replace hx := hx.frc fa hcn
      clear hcn fa za r1x
      have b1 := hx.bK
      have x1 := b1.cell 1
      have u1 := b1.frozen 1
      have xl := b1.lt
      simp at x1
      have hxH := Lib.hid ((hx.setPages (Nat.le_refl _) kk).le (show _ ≤ 700 by omega))
      clear hx b1
      go_wp2_with fail
      go_meet
      case rel => exact ⟨kk, hxH.out⟩
  case rest =>
    clear hx
    obtain ⟨pages, hx⟩ := hcut
    have b1 := hx.bK
    have b2 := hx.bS
    have b3 := hx.bZ
    have b4 := hx.bY
    have x0 := b1.cell 0
    have x1 := b1.cell 1
    have x2 := b1.cell 2
    simp at x0 x1 x2
    have xl := b1.lt
    have y0 := b2.cell 0
    have y1 := b2.cell 1
    simp at y0 y1
    have yl := b2.lt
    have z0 := b3.cell 0
    have z1 := b3.cell 1
    have z2 := b3.cell 2
    simp at z0 z1 z2
    have zl := b3.lt
    have t0 := b4.cell 0
    have t1 := b4.cell 1
    simp at t0 t1
    have tl := b4.lt
    have p0 := b3.frozen 0
    have p1 := b3.frozen 1
    have p2 := b3.frozen 2
    have q0 := b4.frozen 0
    have q1 := b4.frozen 1
    clear b1 b2 b3 b4
    have hn := hx.num
    have ho := Lib.hid hx.put
    clear hx
    go_wp2_with fail
    go_region
    all_goals (go_wp2_with fail)
    refine bodyPost_ret (v := .tuple #[.agg #[.int .i64 key, .int .i64 pages, .slice A us.length c], .agg #[.slice B P.length d, .slice C S.length f]]) (by simp [results, Try.results78, go_sem, z0, z1, z2, t0, t1]) rfl ?_
    have h9 := ho.out
    exact ⟨key, pages, us, P, S, A, c, B, d, C, f, rfl, ⟨by omega, hn.2.2.1.2⟩, hn.2.2.2, h9.1.drew, h9.2.1.drew, h9.2.2.1.drew, h9.2.2.2.drew⟩
set_option maxRecDepth 100000 in
set_option maxHeartbeats 8000000 in
theorem drawReceiveSecret_any (A0 : Option Addr) (n c0 : Nat) (w : World) (hcd : CodeAt w w.heap.size A0 n) (hn : n ≤ 9223372036854775807) (hnc : n ≤ c0) :
    Calls Try.prog 31 #[.slice A0 n c0] w fun e w' => ∃ (key pages : Int) (us P S : List Int) (A : Option Addr) (c : Nat) (B : Option Addr) (d : Nat) (C : Option Addr) (f : Nat), e = .returned (.tuple #[.agg #[.int .i64 key, .int .i64 pages, .slice A us.length c], .agg #[.slice B P.length d, .slice C S.length f]]) ∧ (us.length ≤ 102 ∧ P.length ≤ 61 ∧ S.length ≤ 61 ∧ P.length ≤ d ∧ S.length ≤ f ∧ us.length ≤ c ∧ c ≤ 9223372036854775807) ∧ ((A = none ∧ c = 0) ∨ ∃ b off, A = some ⟨b, off, none⟩) ∧ Rd w' w.heap.size w'.heap.size A us ∧ Rd w' w.heap.size w'.heap.size B P ∧ Rd w' w.heap.size w'.heap.size C S ∧ Below w.heap.size w w' := by
  have h0 := sec_start hcd hn hnc
  obtain ⟨w3, hw3⟩ : ∃ u, u = (((w.alloc (.cells #[.int .i64 0, .int .i64 0, .slice none 0 0] 52)).alloc (.cells #[.slice none 0 0, .slice none 0 0] 56)).alloc (.cells #[.slice A0 n c0, .int .i64 0, .int .u64 0] 84)) := ⟨_, rfl⟩
  rw [← hw3] at h0
  obtain ⟨bZ, bY, hc, hB, hs3⟩ := h0
  go_enter Try.func31, Try.ntmps31
  go_wp2_with fail
  rw [← hw3]
  clear hw3
  have hcd3 : CodeAt w3 w3.heap.size A0 n := (CodeAt.keep hcd (w' := w3) fun b o h1 h2 => World.cell?_of_block (w := w) (hB.block b h2)).up (by omega)
  (with_reducible refine (drawOpenSecret_any A0 n c0 w3 hcd3 hn hnc).mono ?_)
  rintro e w4 ⟨key, pages, us, P, S, A, c, B, d, C, f, rfl, ⟨a1, a2, a3, a4, a5, r1, r2⟩, r3, ru, rP, rS, b4⟩
  have s4 := b4.size
  replace bZ := bZ.st b4
  replace bY := bY.st b4
  replace hB := hB.trans (b4.mono (by omega))
  replace hc := hc.st b4
  clear b4 hcd3 hcd
  have hsw : w.heap.size + 3 ≤ w3.heap.size := by omega
  have hs3H := Lib.hid hs3
  clear hs3
  have hx : SecD w 0 w4.heap.size (w4.heap.size + 1) w3.heap.size w4.heap.size key pages us P S A B C c d f ((w4.alloc (.cells #[.int .i64 key, .int .i64 pages, .slice A us.length c] 52)).alloc (.cells #[.slice B P.length d, .slice C S.length f] 56)) := ⟨Bk.new2 w4 _ _ _, ((rP.mono (by omega) (Nat.le_refl _)).alloc _).alloc _, ((rS.mono (by omega) (Nat.le_refl _)).alloc _).alloc _, (Bk.new w4 _ _).alloc _, (ru.alloc _).alloc _, (bZ.alloc _).alloc _, (bY.alloc _).alloc _, (hc.alloc _).alloc _, (hB.alloc (by omega) _).alloc (by simp; omega) _, ⟨by omega, by omega⟩, ⟨by omega, by simp; omega⟩, ⟨by omega, a2, a3, a4, a5, r1, r2⟩, r3⟩
  clear bZ bY hc hB ru rP rS
  obtain ⟨w5, hw5⟩ : ∃ u, u = ((w4.alloc (.cells #[.int .i64 key, .int .i64 pages, .slice A us.length c] 52)).alloc (.cells #[.slice B P.length d, .slice C S.length f] 56)) := ⟨_, rfl⟩
  rw [← hw5] at hx
  have s5 : w4.heap.size + 2 ≤ w5.heap.size := by rw [hw5]; simp
  have hxH := Lib.hid hx
  clear hx
  go_upto_region 3 with fail
  rw [← hw5]
  clear hw5
  have hx := hxH.out
  clear hxH
  have q6 := hx.bS.cell 0
  have q6l := hx.bS.lt
  simp at q6
  go_cut [22] from 15 (fun s22 wq => ∃ v : Bool, s22 = .bool v ∧ (v = true → 0 < P.length) ∧ SecD w 10 w4.heap.size (w4.heap.size + 1) w3.heap.size w4.heap.size key pages us P S A B C c d f wq)
  case first =>
    by_cases hp : 0 < P.length
    · have hp1 : (0 : Int) < (P.length : Int) := by omega
      go_wp2_with fail
      (with_reducible refine (one_any (w.heap.size + 2) 0 6 _ hx.cur (by omega) (by omega)).mono ?_)
      rintro e w6 ⟨v, rfl, hcn, fa, za⟩
      have s6 := fa.size
      replace hx := hx.frc fa hcn
      clear hcn fa za
      have hxH := Lib.hid (hx.le (show _ ≤ 10 by omega))
      clear hx
      go_wp2_with fail
      go_meet
      case rel => exact ⟨v, rfl, fun _ => hp, hxH.out⟩
    · have hp1 : ¬ ((0 : Int) < (P.length : Int)) := by omega
      have hxH := Lib.hid (hx.le (show _ ≤ 10 by omega))
      clear hx
      go_wp2_with fail
      go_meet
      case rel => exact ⟨false, rfl, fun h => absurd h (by simp), hxH.out⟩
  case rest =>
    clear hx q6 q6l
    obtain ⟨v, rfl, hvp, hx⟩ := hcut
    obtain ⟨wy, rfl⟩ : ∃ u, u = wc := ⟨_, rfl⟩
    go_upto_if 22 with fail
    go_cut [] (fun wq => ∃ (us : List Int) (A : Option Addr) (c lu hu : Nat), SecD w 10 w4.heap.size (w4.heap.size + 1) lu hu key pages us P S A B C c d f wq)
    case first =>
      cases v with
      | false =>
        have hxH := Lib.hid hx
        clear hx
        go_wp2_with fail
        go_meet
        case rel => exact ⟨_, _, _, _, _, hxH.out⟩
      | true =>
        have hp := hvp rfl
        have hp1 : (0 : Int) < (P.length : Int) := by omega
        clear hvp
        obtain ⟨bb, off, rfl, hb1, hb2, hcell⟩ := hx.rP hp
        have k0 := hcell 0 hp
        rw [Nat.add_zero] at k0
        obtain ⟨p0, hp0⟩ : ∃ u, u = P[0] := ⟨_, rfl⟩
        rw [← hp0] at k0
        clear hcell hp0
        have y2 := hx.bK.cell 2
        have u2 := hx.bK.frozen 2
        have yl := hx.bK.lt
        have y6 := hx.bS.cell 0
        have yl6 := hx.bS.lt
        simp at y2 y6
        have hn9 := hx.num
        have hxd := hx.drew
        obtain ⟨U, hU⟩ : ∃ U, putL us p0 = U := ⟨_, rfl⟩
        have hn9 := hx.num
        have hxd := hx.drew
        obtain ⟨U, hU⟩ : ∃ U, putL us p0 = U := ⟨_, rfl⟩
        have hUH := Lib.hid hU
        clear hU
        have hd := hx.drew.ru
        go_wp2_with fail
        go_region_law (first | (go_simp; (go_at_call 79; ((with_reducible refine (l1Put_L us A c p0 _ hd (by omega) (by omega) (by omega) r3 U hUH.out).mono ?_); rintro e wa ⟨A', c', l', h', rfl, rU, hor, q1, q2, hA', ba⟩); (have h12 := hxd.st ba); (have sa := ba.size); (have y2a := h12.bK.cell 2); (have u2a := h12.bK.frozen 2); (have yla := h12.bK.lt); (simp at y2a))))
        all_goals
          have hor2 := Lib.hid hor
          clear hor
          have hxH := Lib.hid (h12.setUsed (lu' := l') (hu' := h') rU (by have h3 := hor2.out; have h4 : wy.drew.heap.size = wy.heap.size := rfl; omega) (by have h3 := hor2.out; have h4 : wy.drew.heap.size = wy.heap.size := rfl; omega) ⟨by rw [← hUH.out]; exact Nat.le_trans (putL_len us p0) (by omega), q1, q2⟩ hA')
          clear hx hxd h12 rU hA' ba y2 u2 yl y6 yl6 k0 hd y2a u2a yla
          go_wp2_with fail
          go_meet
          case rel => exact ⟨_, _, _, _, _, hxH.out⟩
    case rest =>
      clear hx hvp
      obtain ⟨us, A, c, lu, hu, hx⟩ := hcut
      have b1 := hx.bK
      have b2 := hx.bS
      have b3 := hx.bZ
      have b4 := hx.bY
      have x0 := b1.cell 0
      have x1 := b1.cell 1
      have x2 := b1.cell 2
      simp at x0 x1 x2
      have xl := b1.lt
      have y0 := b2.cell 0
      have y1 := b2.cell 1
      simp at y0 y1
      have yl := b2.lt
      have z0 := b3.cell 0
      have z1 := b3.cell 1
      have z2 := b3.cell 2
      simp at z0 z1 z2
      have zl := b3.lt
      have t0 := b4.cell 0
      have t1 := b4.cell 1
      simp at t0 t1
      have tl := b4.lt
      have p0 := b3.frozen 0
      have p1 := b3.frozen 1
      have p2 := b3.frozen 2
      have q0 := b4.frozen 0
      have q1 := b4.frozen 1
      clear b1 b2 b3 b4
      have hn := hx.num
      have ho := Lib.hid hx.put
      clear hx
      go_wp2_with fail
      go_region
      all_goals (go_wp2_with fail)
      refine bodyPost_ret (v := .tuple #[.agg #[.int .i64 key, .int .i64 pages, .slice A us.length c], .agg #[.slice B P.length d, .slice C S.length f]]) (by simp [results, Try.results31, go_sem, z0, z1, z2, t0, t1]) rfl ?_
      have h9 := ho.out
      exact ⟨key, pages, us, P, S, A, c, B, d, C, f, rfl, ⟨by omega, hn.2.2.1.2⟩, hn.2.2.2, h9.1.drew, h9.2.1.drew, h9.2.2.1.drew, h9.2.2.2.drew⟩
end Go.Proofs.Yteajjbfecpffeaa
