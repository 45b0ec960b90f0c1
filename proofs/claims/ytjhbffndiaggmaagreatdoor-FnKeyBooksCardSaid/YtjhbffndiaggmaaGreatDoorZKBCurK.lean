/-
  Contracts of the draws of FnKeyBooks. The conditions are bounds on lengths and on how often the cursor has been asked.
-/
import Derived.Test.YtjhbffndiaggmaaGreatDoorZKBCurT
import Derived.Test.YtjhbffndiaggmaaGreatDoorZKBCurL
import Derived.Test.YtjhbffndiaggmaaGreatDoorZKBKbText
import Derived.Deep.RegionLaw
namespace Go.Proofs.YtjhbffndiaggmaaGreatDoor
open Go.RowKit Go.ChangeShapes Go.WideShapes
set_option linter.unusedVariables false
set_option linter.unusedSimpArgs false

/-- what a pair's drawing holds: the two boxes of the results, the first book, the cursor -/
structure KpL (w0 : World) (g M L H4 : Nat) (cz cy ca : Array Value) (us : List Int) (A : Option Addr) (wq : World) : Prop where
  bZ : Bk wq w0.heap.size 26 cz
  bY : Bk wq (w0.heap.size + 1) 26 cy
  bA : Bk wq H4 26 ca
  r1 : Rd wq L H4 A us
  cur : Cur wq g M
  fr : Fr g (g + 1) w0 wq
  num : g < w0.heap.size ∧ w0.heap.size + 2 ≤ L ∧ L ≤ H4 ∧ H4 < wq.heap.size
section
variable {w0 wq w' : World} {g M L H4 : Nat} {cz cy ca : Array Value} {us : List Int} {A : Option Addr}
theorem KpL.frc {M' : Nat} (h : KpL w0 g M L H4 cz cy ca us A wq) (hf : Fr g (g + 1) wq w') (hc : Cur w' g M') : KpL w0 g M' L H4 cz cy ca us A w' := by
  have hn := h.num
  have hs := hf.size
  exact ⟨h.bZ.fr hf (by omega), h.bY.fr hf (by omega), h.bA.fr hf (by omega), h.r1.fr hf (by omega), hc, h.fr.trans hf, by omega⟩
theorem KpL.drew (h : KpL w0 g M L H4 cz cy ca us A wq) : KpL w0 g M L H4 cz cy ca us A wq.drew := ⟨h.bZ, h.bY, h.bA, h.r1, h.cur, h.fr.drew, h.num⟩
theorem KpL.le {M' : Nat} (h : KpL w0 g M L H4 cz cy ca us A wq) (hM : M ≤ M') : KpL w0 g M' L H4 cz cy ca us A wq := { h with cur := h.cur.le hM }
theorem KpL.alloc (h : KpL w0 g M L H4 cz cy ca us A wq) (o : Obj) : KpL w0 g M L H4 cz cy ca us A (wq.alloc o) := by
  have hn := h.num
  exact ⟨h.bZ.alloc _, h.bY.alloc _, h.bA.alloc _, h.r1.alloc _, h.cur.alloc _, h.fr.alloc _, by simp; omega⟩
theorem KpL.low {B : Nat} (h : KpL w0 g M L H4 cz cy ca us A wq) (hb : Below B wq w') (hB : H4 < B) : KpL w0 g M L H4 cz cy ca us A w' := by
  have hn := h.num
  have hs := hb.size
  have hw := h.fr.size
  exact ⟨h.bZ.below hb (by omega), h.bY.below hb (by omega), h.bA.below hb hB, h.r1.below hb (by omega), h.cur.below hb (by omega), h.fr.then_below hb (by omega), by omega⟩
theorem KpL.high (h : KpL w0 g M L H4 cz cy ca us A wq) {p : Addr} (hp : H4 < p.block) (u : Value) : KpL w0 g M L H4 cz cy ca us A (wq.setCell p u) := by
  have hn := h.num
  exact ⟨h.bZ.far (by omega) _, h.bY.far (by omega) _, h.bA.far (by omega) _, h.r1.setCell (by omega) _, h.cur.setCell (by omega) _, h.fr.setNew (by omega) _, by rw [size_setCell]; omega⟩
theorem KpL.putZ {a b c : Value} (h : KpL w0 g M L H4 #[a, b, c] cy ca us A wq) (x y z : Value) : KpL w0 g M L H4 #[x, y, z] cy ca us A (((wq.setCell ⟨w0.heap.size, 0, none⟩ x).setCell ⟨w0.heap.size, 1, none⟩ y).setCell ⟨w0.heap.size, 2, none⟩ z) := by
  have hn := h.num
  refine ⟨?_, ((h.bY.far (by dsimp only; omega) _).far (by dsimp only; omega) _).far (by dsimp only; omega) _, ((h.bA.far (by dsimp only; omega) _).far (by dsimp only; omega) _).far (by dsimp only; omega) _, ((h.r1.setAny (by dsimp only; omega) _).setAny (by dsimp only; omega) _).setAny (by dsimp only; omega) _, ((h.cur.setCell (by dsimp only; omega) _).setCell (by dsimp only; omega) _).setCell (by dsimp only; omega) _, ((h.fr.setNew (by dsimp only; omega) _).setNew (by dsimp only; omega) _).setNew (by dsimp only; omega) _, by simp only [size_setCell]; exact hn⟩
  simpa using ((h.bZ.set_ 0 x).set_ 1 y).set_ 2 z
theorem KpL.putY {a b c : Value} (h : KpL w0 g M L H4 cz #[a, b, c] ca us A wq) (x y z : Value) : KpL w0 g M L H4 cz #[x, y, z] ca us A (((wq.setCell ⟨w0.heap.size + 1, 0, none⟩ x).setCell ⟨w0.heap.size + 1, 1, none⟩ y).setCell ⟨w0.heap.size + 1, 2, none⟩ z) := by
  have hn := h.num
  refine ⟨((h.bZ.far (by dsimp only; omega) _).far (by dsimp only; omega) _).far (by dsimp only; omega) _, ?_, ((h.bA.far (by dsimp only; omega) _).far (by dsimp only; omega) _).far (by dsimp only; omega) _, ((h.r1.setAny (by dsimp only; omega) _).setAny (by dsimp only; omega) _).setAny (by dsimp only; omega) _, ((h.cur.setCell (by dsimp only; omega) _).setCell (by dsimp only; omega) _).setCell (by dsimp only; omega) _, ((h.fr.setNew (by dsimp only; omega) _).setNew (by dsimp only; omega) _).setNew (by dsimp only; omega) _, by simp only [size_setCell]; exact hn⟩
  simpa using ((h.bY.set_ 0 x).set_ 1 y).set_ 2 z
end
theorem Rd.top {w : World} {lo hi : Nat} {A : Option Addr} {zs : List Int} (h : Rd w lo hi A zs) : Rd w lo w.heap.size A zs := fun hp => by
  obtain ⟨b, off, e, a1, a2, hc⟩ := h hp
  exact ⟨b, off, e, a1, World.block_lt_of_cell? w _ (hc 0 hp), hc⟩
theorem Rd.set3 {lo hi q : Nat} {w : World} {A : Option Addr} {zs : List Int} (h : Rd w lo hi A zs) (h1 : q < lo) (x y z : Value) : Rd (((w.setCell ⟨q, 0, none⟩ x).setCell ⟨q, 1, none⟩ y).setCell ⟨q, 2, none⟩ z) lo hi A zs :=
  ((h.setAny (.inl h1) x).setAny (.inl h1) y).setAny (.inl h1) z
set_option maxRecDepth 100000 in
set_option maxHeartbeats 8000000 in
theorem keyPair_any (g N : Nat) (w : World) (hc : Cur w g N) (hN : N ≤ 4611686018427370000) :
    Calls Tryz.prog 88 #[.pointer (some ⟨g, 0, none⟩)] w fun e w' => ∃ (k1 p1 : Int) (us : List Int) (A : Option Addr) (c : Nat) (k2 p2 : Int) (vs : List Int) (B : Option Addr) (d : Nat), e = .returned (.tuple #[.agg #[.int .i64 k1, .int .i64 p1, .slice A us.length c], .agg #[.int .i64 k2, .int .i64 p2, .slice B vs.length d]]) ∧ (us.length ≤ 100 ∧ vs.length ≤ 100) ∧ Rd w' (w.heap.size + 2) w'.heap.size A us ∧ Rd w' (w.heap.size + 2) w'.heap.size B vs ∧ Cur w' g (N + 700) ∧ Fr g (g + 1) w w' := by
  have hgl := hc.lt
  have hF := Fr.refl g (g + 1) w
  obtain ⟨w2, hw2⟩ : ∃ u, u = (w.alloc (.cells #[.int .i64 0, .int .i64 0, .slice none 0 0] 26)).alloc (.cells #[.int .i64 0, .int .i64 0, .slice none 0 0] 26) := ⟨_, rfl⟩
  have bZ : Bk w2 w.heap.size 26 #[.int .i64 0, .int .i64 0, .slice none 0 0] := by rw [hw2]; exact (Bk.new w _ _).alloc _
  have bY : Bk w2 (w.heap.size + 1) 26 #[.int .i64 0, .int .i64 0, .slice none 0 0] := by rw [hw2]; exact Bk.new2 w _ _ _
  replace hc : Cur w2 g N := by rw [hw2]; exact (hc.alloc _).alloc _
  replace hF : Fr g (g + 1) w w2 := by rw [hw2]; exact (hF.alloc _).alloc _
  have s2 : w2.heap.size = w.heap.size + 2 := by rw [hw2]; simp
  go_enter Tryz.func88, Tryz.ntmps88
  go_wp2_with fail
  rw [← hw2]
  clear hw2
  (with_reducible refine (keyBook_any g N _ hc (by omega)).mono ?_)
  rintro e w3 ⟨k1, p1, us, A, c, rfl, hp1, hus, ou, hcn, fa⟩
  have s3 := fa.size
  have hx : KpL w g (N + 300) w2.heap.size w3.heap.size #[.int .i64 0, .int .i64 0, .slice none 0 0] #[.int .i64 0, .int .i64 0, .slice none 0 0] #[.int .i64 k1, .int .i64 p1, .slice A us.length c] us A (w3.alloc (.cells #[.int .i64 k1, .int .i64 p1, .slice A us.length c] 26)) := ⟨(bZ.fr fa (by omega)).alloc _, (bY.fr fa (by omega)).alloc _, Bk.new w3 _ _, ou.rd'.alloc _, hcn.alloc _, (hF.trans fa).alloc _, by simp; omega⟩
  obtain ⟨L, hL⟩ : ∃ L, L = w2.heap.size := ⟨_, rfl⟩
  rw [← hL] at hx
  obtain ⟨w4, hw4⟩ : ∃ u, u = w3.alloc (.cells #[.int .i64 k1, .int .i64 p1, .slice A us.length c] 26) := ⟨_, rfl⟩
  rw [← hw4] at hx
  obtain ⟨H4, hH4⟩ : ∃ n, n = w3.heap.size := ⟨_, rfl⟩
  rw [← hH4] at hx
  clear bZ bY hc hF ou hcn fa hL
  go_wp2_with fail
  rw [← hw4]
  (with_reducible refine (one_any g (N + 300) 5 _ hx.cur (by omega) (by omega)).mono ?_)
  rintro e w5 ⟨v, rfl, hcn, fa, sz5⟩
  replace hx := hx.frc fa hcn
  clear fa hcn sz5
  have hn := hx.num
  rw [← hH4]
  clear hw4 hH4 s2 s3
  cases v with
  | true =>
    have hxd := hx.drew
    have hxs := hxd.putZ (.int .i64 k1) (.int .i64 p1) (.slice A us.length c)
    have y0 := hx.bA.cell 0
    have y1 := hx.bA.cell 1
    have y2 := hx.bA.cell 2
    simp at y0 y1 y2
    have yl := hx.bA.lt
    have t0 := hx.bZ.cell 0
    have t1 := hx.bZ.cell 1
    have t2 := hx.bZ.cell 2
    have tf0 := hx.bZ.frozen 0
    have tf1 := hx.bZ.frozen 1
    have tf2 := hx.bZ.frozen 2
    simp at t0 t1 t2
    have tl := hx.bZ.lt
    have q0 := hx.bY.cell 0
    have q1 := hx.bY.cell 1
    have q2 := hx.bY.cell 2
    have qf0 := hx.bY.frozen 0
    have qf1 := hx.bY.frozen 1
    have qf2 := hx.bY.frozen 2
    simp at q0 q1 q2
    have ql := hx.bY.lt
    have hxH := Lib.hid hx
    have hxdH := Lib.hid hxd
    have hxsH := Lib.hid hxs
    clear hx hxd hxs
    go_wp2_with fail
    go_region_law (first
      | (go_simp; (go_at_call 99; ((with_reducible refine (keyBook_any g (N + 300 + 2) _ hxdH.out.cur (by omega)).mono ?_); rintro e w6 ⟨k2, p2, vs, B, d, rfl, hp2, hvs, ov, hcn, fa⟩); (have hz := hxdH.out.frc fa hcn); (have z0 := hz.bA.cell 0); (have tt0 := hz.bZ.cell 0); (have tf0 := hz.bZ.frozen 0); (have qq0 := hz.bY.cell 0); (have qf0 := hz.bY.frozen 0); (have z1 := hz.bA.cell 1); (have tt1 := hz.bZ.cell 1); (have tf1 := hz.bZ.frozen 1); (have qq1 := hz.bY.cell 1); (have qf1 := hz.bY.frozen 1); (have z2 := hz.bA.cell 2); (have tt2 := hz.bZ.cell 2); (have tf2 := hz.bZ.frozen 2); (have qq2 := hz.bY.cell 2); (have qf2 := hz.bY.frozen 2); (simp at z0 z1 z2 tt0 tt1 tt2 qq0 qq1 qq2); (have ttl := hz.bZ.lt); (have qql := hz.bY.lt)))
      | (go_simp; (go_at_call 99; ((with_reducible refine (keyBook_any g (N + 300 + 2) _ hxsH.out.cur (by omega)).mono ?_); rintro e w6 ⟨k2, p2, vs, B, d, rfl, hp2, hvs, ov, hcn, fa⟩); (have hz := hxsH.out.frc fa hcn); (have z0 := hz.bA.cell 0); (have tt0 := hz.bZ.cell 0); (have tf0 := hz.bZ.frozen 0); (have qq0 := hz.bY.cell 0); (have qf0 := hz.bY.frozen 0); (have z1 := hz.bA.cell 1); (have tt1 := hz.bZ.cell 1); (have tf1 := hz.bZ.frozen 1); (have qq1 := hz.bY.cell 1); (have qf1 := hz.bY.frozen 1); (have z2 := hz.bA.cell 2); (have tt2 := hz.bZ.cell 2); (have tf2 := hz.bZ.frozen 2); (have qq2 := hz.bY.cell 2); (have qf2 := hz.bY.frozen 2); (simp at z0 z1 z2 tt0 tt1 tt2 qq0 qq1 qq2); (have ttl := hz.bZ.lt); (have qql := hz.bY.lt))))
    all_goals
      have hsz := fa.size
      have hnz := hz.num
      have rv : Rd w6 (w.heap.size + 2) w6.heap.size B vs := ov.rd'.mono (by simp; omega) (Nat.le_refl _)
      have hA := hz.putZ (.int .i64 k1) (.int .i64 p1) (.slice A us.length c) |>.putY (.int .i64 k2) (.int .i64 p2) (.slice B vs.length d)
      have hB := hz.putY (.int .i64 k2) (.int .i64 p2) (.slice B vs.length d) |>.putZ (.int .i64 k1) (.int .i64 p1) (.slice A us.length c)
      have hC := hz.putY (.int .i64 k2) (.int .i64 p2) (.slice B vs.length d)
      have rA := (rv.set3 (q := w.heap.size) (by omega) (.int .i64 k1) (.int .i64 p1) (.slice A us.length c)).set3 (q := w.heap.size + 1) (by omega) (.int .i64 k2) (.int .i64 p2) (.slice B vs.length d)
      have rB := (rv.set3 (q := w.heap.size + 1) (by omega) (.int .i64 k2) (.int .i64 p2) (.slice B vs.length d)).set3 (q := w.heap.size) (by omega) (.int .i64 k1) (.int .i64 p1) (.slice A us.length c)
      have rC := rv.set3 (q := w.heap.size + 1) (by omega) (.int .i64 k2) (.int .i64 p2) (.slice B vs.length d)
      have hAH := Lib.hid (And.intro hA rA)
      have hBH := Lib.hid (And.intro hB rB)
      have hCH := Lib.hid (And.intro hC rC)
      clear hA hB hC rA rB rC hz rv fa hcn ov
      go_wp2_with fail
      refine bodyPost_ret (v := .tuple #[.agg #[.int .i64 k1, .int .i64 p1, .slice A us.length c], .agg #[.int .i64 k2, .int .i64 p2, .slice B vs.length d]]) (by simp [results, Tryz.results88, go_sem, tt0, tt1, tt2, qq0, qq1, qq2]) rfl ?_
      refine ⟨k1, p1, us, A, c, k2, p2, vs, B, d, rfl, ⟨hus, hvs⟩, ?_⟩
      first
        | exact ⟨hAH.out.1.r1.mono (by omega) (by simp only [size_setCell]; have := hnz; simp; omega), hAH.out.2.mono (Nat.le_refl _) (by simp only [size_setCell]; exact Nat.le_refl _), hAH.out.1.cur.le (by omega), hAH.out.1.fr⟩
        | exact ⟨hBH.out.1.r1.mono (by omega) (by simp only [size_setCell]; have := hnz; simp; omega), hBH.out.2.mono (Nat.le_refl _) (by simp only [size_setCell]; exact Nat.le_refl _), hBH.out.1.cur.le (by omega), hBH.out.1.fr⟩
        | exact ⟨hCH.out.1.r1.mono (by omega) (by simp only [size_setCell]; have := hnz; simp; omega), hCH.out.2.mono (Nat.le_refl _) (by simp only [size_setCell]; exact Nat.le_refl _), hCH.out.1.cur.le (by omega), hCH.out.1.fr⟩
  | false =>
    have y0 := hx.bA.cell 0
    have y1 := hx.bA.cell 1
    have y2 := hx.bA.cell 2
    simp at y0 y1 y2
    have yl := hx.bA.lt
    go_wp2_with fail
    have hb5 : Bk (w5.alloc (.cells #[.int .i64 k1, .int .i64 p1, .slice none 0 0] 26)) w5.heap.size 26 #[.int .i64 k1, .int .i64 p1, .slice none 0 0] := Bk.new w5 _ _
    replace hx := hx.alloc (.cells #[.int .i64 k1, .int .i64 p1, .slice none 0 0] 26)
    clear y0 y1 y2 yl
    obtain ⟨w6, hw6⟩ : ∃ u, u = w5.alloc (.cells #[.int .i64 k1, .int .i64 p1, .slice none 0 0] 26) := ⟨_, rfl⟩
    rw [← hw6] at hb5 hx ⊢
    have s6 : w6.heap.size = w5.heap.size + 1 := by rw [hw6]; simp
    obtain ⟨H5, hH5⟩ : ∃ n, n = w5.heap.size := ⟨_, rfl⟩
    rw [← hH5] at hb5 s6 hn ⊢
    clear hw6
    have s6H := Lib.hid s6
    clear s6 hH5
    go_loopw [6] (fun i wr => ∃ (n : Nat) (vs : List Int) (B : Option Addr) (k d : Nat), n ≤ 61 ∧ i = .int .i64 (n : Int) ∧ vs.length = k ∧ k ≤ n ∧ Bk wr H5 26 #[.int .i64 k1, .int .i64 p1, .slice B k d] ∧ Own wr (H5 + 1) wr.heap.size (.slice B k d) vs ∧ KpL w g (N + 302 + 2 * n) L H4 #[.int .i64 0, .int .i64 0, .slice none 0 0] #[.int .i64 0, .int .i64 0, .slice none 0 0] #[.int .i64 k1, .int .i64 p1, .slice A us.length c] us A wr ∧ H5 < wr.heap.size) (fun i _ => 62 - (intOf i).toNat)
    case atStart => exact ⟨0, [], none, 0, 0, by omega, rfl, rfl, Nat.le_refl _, hb5, Own.nil, hx.le (by omega), by have := s6H.out; omega⟩
    case round =>
      clear hb5 hx s6H
      obtain ⟨n, vs, B, k, d, hn61, rfl, hvk, hkn, b5, ov, hx, h5r⟩ := hrel
      have hvkH := Lib.hid hvk
      clear hvk
      have y1 := b5.cell 1
      have y2 := b5.cell 2
      have yl := b5.lt
      simp at y1 y2
      by_cases hlt : (n : Int) < p1
      · go_wp2_with fail
        (with_reducible refine (one_any g (N + 302 + 2 * n) 3 _ hx.cur (by omega) (by omega)).mono ?_)
        rintro e w7 ⟨v, rfl, hcn, fa, s7⟩
        have s7H := Lib.hid s7
        have hl7 : wr.heap.size ≤ w7.heap.size := by omega
        have hn7 := hx.num
        replace hx := hx.frc fa hcn
        replace b5 := b5.fr fa (by omega)
        replace ov := (ov.fr fa (.inr (by omega))).mono (Nat.le_refl _) hl7
        clear fa hcn s7 y1 y2 yl
        cases v with
        | false =>
          have hall := Lib.hid (And.intro b5 (And.intro ov hx))
          clear b5 ov hx
          go_wp2_with fail
          go_roundw
          case rel => exact ⟨n + 1, vs, B, k, d, by omega, by go_num, hvkH.out, by omega, hall.out.1, hall.out.2.1, hall.out.2.2.le (by omega), by omega⟩
          case measure => simp [intOf]; omega
        | true =>
          have y2 := b5.cell 2
          have y2f := b5.frozen 2
          have yl := b5.lt
          simp at y2
          have b5H := Lib.hid b5
          have ovH := Lib.hid ov
          have hxH := Lib.hid hx
          clear b5 ov hx
          go_wp2_with (at_builtin; refine wp_append_ints rfl (.tmp 28) (.tmp 30) (v := .slice B k d) rfl rfl (ovH.out.alloc _) (ys := [(n : Int)]) rfl ((Rd.one w7 _ _ _ rfl).mono (Nat.zero_le _) (by simp)) (by have := hvkH.out; simp; omega) (by simp; omega) ?_; intro v8 w8 ho8 hg8 hb8 hat8; (obtain ⟨A8, c8, rfl, -, -⟩ := ho8.rd); (have hl8 : (vs ++ [(n : Int)]).length = k + 1 := by have h9 := hvkH.out; rw [List.length_append, h9]; rfl); rw [hl8] at ho8 ⊢; (have bk8 := (b5H.out.alloc (.cells #[.int .i64 (n : Int)] 3)).below hb8 (by omega)); (have y8 := bk8.cell 2); (have f8 := bk8.frozen 2); (simp at y8))
          have hlw8 : w7.heap.size ≤ w8.heap.size := by have := hb8.size; simp at this; omega
          have hbk9 := Lib.hid (show Bk (w8.setCell ⟨H5, 2, none⟩ (.slice A8 (k + 1) c8)) H5 26 #[.int .i64 k1, .int .i64 p1, .slice A8 (k + 1) c8] by simpa using bk8.set_ 2 (.slice A8 (k + 1) c8))
          have hx9 := ((hxH.out.alloc (.cells #[.int .i64 (n : Int)] 3)).low hb8 (by omega)).high (p := ⟨H5, 2, none⟩) (by dsimp only; omega) (.slice A8 (k + 1) c8)
          have ho9 := ho8.setCell (p := ⟨H5, 2, none⟩) (.inl (by dsimp only; omega)) (.slice A8 (k + 1) c8)
          refine ⟨⟨n + 1, vs ++ [(n : Int)], A8, k + 1, c8, by omega, by go_num, hl8, by omega, hbk9.out, ho9.mono (Nat.le_refl _) (by rw [size_setCell]; exact Nat.le_refl _), hx9.le (by omega), by rw [size_setCell]; omega⟩, ?_⟩
          simp [intOf]; omega
      · obtain ⟨wl, rfl⟩ : ∃ wl, wl = wr := ⟨_, rfl⟩
        have hvl : vs.length ≤ 100 := by have := hvkH.out; omega
        have hn7 := hx.num
        have y0 := b5.cell 0
        simp at y0
        have x0 := hx.bA.cell 0
        have x1 := hx.bA.cell 1
        have x2 := hx.bA.cell 2
        simp at x0 x1 x2
        have xl := hx.bA.lt
        have t0 := hx.bZ.cell 0
        have t1 := hx.bZ.cell 1
        have t2 := hx.bZ.cell 2
        have tf0 := hx.bZ.frozen 0
        have tf1 := hx.bZ.frozen 1
        have tf2 := hx.bZ.frozen 2
        simp at t0 t1 t2
        have tl := hx.bZ.lt
        have q0 := hx.bY.cell 0
        have q1 := hx.bY.cell 1
        have q2 := hx.bY.cell 2
        have qf0 := hx.bY.frozen 0
        have qf1 := hx.bY.frozen 1
        have qf2 := hx.bY.frozen 2
        simp at q0 q1 q2
        have ql := hx.bY.lt
        have rv : Rd wl (w.heap.size + 2) wl.heap.size B vs := ov.rd'.mono (by omega) (Nat.le_refl _)
        have ho := Lib.hid (And.intro (hx.putZ (.int .i64 k1) (.int .i64 p1) (.slice A us.length c) |>.putY (.int .i64 k1) (.int .i64 p1) (.slice B k d)) ((rv.set3 (q := w.heap.size) (by omega) (.int .i64 k1) (.int .i64 p1) (.slice A us.length c)).set3 (q := w.heap.size + 1) (by omega) (.int .i64 k1) (.int .i64 p1) (.slice B k d)))
        have hvk := Lib.hid hvkH.out
        clear b5 ov hx rv
        go_wp2_with fail
        go_region
        all_goals (go_wp2_with fail)
        refine bodyPost_ret (v := .tuple #[.agg #[.int .i64 k1, .int .i64 p1, .slice A us.length c], .agg #[.int .i64 k1, .int .i64 p1, .slice B k d]]) (by simp [results, Tryz.results88, go_sem, t0, t1, t2, q0, q1, q2]) rfl ?_
        have h9 := ho.out
        refine ⟨k1, p1, us, A, c, k1, p1, vs, B, d, by rw [hvk.out], ⟨hus, hvl⟩, h9.1.drew.r1.mono (by omega) (by have := h9.1.drew.num; omega), h9.2.drew.top, h9.1.drew.cur.le (by omega), h9.1.drew.fr⟩
theorem below_set3 {B q : Nat} {w w' : World} (h : Below B w w') (hq : B ≤ q) (x y z : Value) : Below B w (((w'.setCell ⟨q, 0, none⟩ x).setCell ⟨q, 1, none⟩ y).setCell ⟨q, 2, none⟩ z) :=
  ((h.setCell (p := ⟨q, 0, none⟩) hq x).setCell (p := ⟨q, 1, none⟩) hq y).setCell (p := ⟨q, 2, none⟩) hq z
theorem Own.set3b {lo hi q : Nat} {w : World} {v : Value} {zs : List Int} (h : Own w lo hi v zs) (h1 : q < lo) (x y z : Value) : Own (((w.setCell ⟨q, 0, none⟩ x).setCell ⟨q, 1, none⟩ y).setCell ⟨q, 2, none⟩ z) lo hi v zs :=
  ((h.setCell (.inl h1) x).setCell (.inl h1) y).setCell (.inl h1) z
theorem kbTo_lenG {key pages : Int} {us : List Int} (h : kbB key pages us = true) : (kbTo key pages us us.length).length ≤ 2000 := by
  obtain ⟨h1, h2, h3, h4⟩ := kb_facts h
  have := kbTo_len h1 h2 h4 us.length (Nat.le_refl _)
  have := kb_most h
  omega
set_option maxRecDepth 100000 in
set_option maxHeartbeats 4000000 in
theorem drawIsKeyBook_any (A0 : Option Addr) (n c0 : Nat) (w : World) (hcd : CodeAt w w.heap.size A0 n) (hn : n ≤ 9223372036854775807) (hnc : n ≤ c0) :
    Calls Tryz.prog 72 #[.slice A0 n c0] w fun e w' => ∃ (k1 p1 : Int) (us : List Int) (A : Option Addr) (c : Nat), e = .returned (.agg #[.int .i64 k1, .int .i64 p1, .slice A us.length c]) ∧ us.length ≤ 100 ∧ Own w' w.heap.size w'.heap.size (.slice A us.length c) us ∧ Below w.heap.size w w' := by
  obtain ⟨wb, hwb⟩ : ∃ u, u = (w.alloc (.cells #[.int .i64 0, .int .i64 0, .slice none 0 0] 26)) := ⟨_, rfl⟩
  have sb : wb.heap.size = w.heap.size + 1 := by rw [hwb]; simp
  have bB : Below w.heap.size w wb := by rw [hwb]; exact (Below.refl _ _).alloc (Nat.le_refl _) _
  have bZ : Bk wb w.heap.size 26 #[.int .i64 0, .int .i64 0, .slice none 0 0] := by rw [hwb]; exact Bk.new w _ _
  have hcdb := hcd.st bB
  have hc := Cur.fresh (c := c0) hcdb hn hnc
  have hB := bB.alloc (by omega) (.cells #[.slice A0 n c0, .int .i64 0, .int .u64 0] 102)
  replace bZ := bZ.alloc (.cells #[.slice A0 n c0, .int .i64 0, .int .u64 0] 102)
  go_enter Tryz.func72, Tryz.ntmps72
  go_wp2_with fail
  rw [← hwb]
  skip
  obtain ⟨w2, hw2⟩ : ∃ u, u = wb.alloc (.cells #[.slice A0 n c0, .int .i64 0, .int .u64 0] 102) := ⟨_, rfl⟩
  have s2 : w2.heap.size = w.heap.size + 2 := by rw [hw2]; simp; omega
  rw [← hw2] at hc hB bZ ⊢
  rw [sb] at hc
  clear hw2 hwb bB hcdb hcd
  (with_reducible refine (keyBook_any (w.heap.size + 1) 0 _ hc (by omega)).mono ?_)
  rintro e w3 ⟨k1, p1, us, A, c, rfl, -, hus, ou, hcn, fa⟩
  have s3 := fa.size
  replace bZ := bZ.fr fa (by omega)
  replace hB := hB.trans (fa.below (B := w.heap.size) (by omega) (by omega))
  clear hc hcn fa
  have z0 := bZ.cell 0
  have z1 := bZ.cell 1
  have z2 := bZ.cell 2
  have zf0 := bZ.frozen 0
  have zf1 := bZ.frozen 1
  have zf2 := bZ.frozen 2
  simp at z0 z1 z2
  have zl := bZ.lt
  have ho := Lib.hid (And.intro ((ou.mono (show w.heap.size + 2 ≤ _ by omega) (Nat.le_refl _)).set3b (q := w.heap.size) (by omega) (.int .i64 k1) (.int .i64 p1) (.slice A us.length c)) (below_set3 (q := w.heap.size) hB (Nat.le_refl _) (.int .i64 k1) (.int .i64 p1) (.slice A us.length c)))
  clear bZ ou hB
  go_wp2_with fail
  refine bodyPost_ret (v := .agg #[.int .i64 k1, .int .i64 p1, .slice A us.length c]) (by simp [results, Tryz.results72, go_sem, z0, z1, z2]) rfl ?_
  exact ⟨k1, p1, us, A, c, rfl, hus, ho.out.1.mono (by omega) (by simp only [size_setCell]; exact Nat.le_refl _), ho.out.2⟩
set_option maxRecDepth 100000 in
set_option maxHeartbeats 4000000 in
theorem drawKeyBookText_any (A0 : Option Addr) (n c0 : Nat) (w : World) (hcd : CodeAt w w.heap.size A0 n) (hn : n ≤ 9223372036854775807) (hnc : n ≤ c0) :
    Calls Tryz.prog 7 #[.slice A0 n c0] w fun e w' => ∃ (k1 p1 : Int) (us : List Int) (A : Option Addr) (c : Nat), e = .returned (.agg #[.int .i64 k1, .int .i64 p1, .slice A us.length c]) ∧ us.length ≤ 100 ∧ Own w' w.heap.size w'.heap.size (.slice A us.length c) us ∧ Below w.heap.size w w' := by
  obtain ⟨wb, hwb⟩ : ∃ u, u = (w.alloc (.cells #[.int .i64 0, .int .i64 0, .slice none 0 0] 26)) := ⟨_, rfl⟩
  have sb : wb.heap.size = w.heap.size + 1 := by rw [hwb]; simp
  have bB : Below w.heap.size w wb := by rw [hwb]; exact (Below.refl _ _).alloc (Nat.le_refl _) _
  have bZ : Bk wb w.heap.size 26 #[.int .i64 0, .int .i64 0, .slice none 0 0] := by rw [hwb]; exact Bk.new w _ _
  have hcdb := hcd.st bB
  go_enter Tryz.func7, Tryz.ntmps7
  go_wp2_with fail
  rw [← hwb]
  (with_reducible refine (drawIsKeyBook_any A0 n c0 wb hcdb hn hnc).mono ?_)
  rintro e w3 ⟨k1, p1, us, A, c, rfl, hus, ou, hb⟩
  have s3 := hb.size
  replace bZ := bZ.st hb
  have hB := bB.trans (hb.mono (by omega))
  clear hb bB hcdb hcd
  have z0 := bZ.cell 0
  have z1 := bZ.cell 1
  have z2 := bZ.cell 2
  have zf0 := bZ.frozen 0
  have zf1 := bZ.frozen 1
  have zf2 := bZ.frozen 2
  simp at z0 z1 z2
  have zl := bZ.lt
  have ho := Lib.hid (And.intro (ou.set3b (q := w.heap.size) (by omega) (.int .i64 k1) (.int .i64 p1) (.slice A us.length c)) (below_set3 (q := w.heap.size) hB (Nat.le_refl _) (.int .i64 k1) (.int .i64 p1) (.slice A us.length c)))
  clear bZ ou hB hwb
  go_wp2_with fail
  refine bodyPost_ret (v := .agg #[.int .i64 k1, .int .i64 p1, .slice A us.length c]) (by simp [results, Tryz.results7, go_sem, z0, z1, z2]) rfl ?_
  exact ⟨k1, p1, us, A, c, rfl, hus, ho.out.1.mono (by omega) (by simp only [size_setCell]; exact Nat.le_refl _), ho.out.2⟩
set_option maxRecDepth 100000 in
set_option maxHeartbeats 4000000 in
theorem drawUsePage_any (A0 : Option Addr) (n c0 : Nat) (w : World) (hcd : CodeAt w w.heap.size A0 n) (hn : n ≤ 9223372036854775807) (hnc : n ≤ c0) :
    Calls Tryz.prog 25 #[.slice A0 n c0] w fun e w' => ∃ (k1 p1 : Int) (us : List Int) (A : Option Addr) (c : Nat) (pg : Int), e = .returned (.tuple #[.agg #[.int .i64 k1, .int .i64 p1, .slice A us.length c], .int .i64 pg]) ∧ us.length ≤ 100 ∧ Own w' w.heap.size w'.heap.size (.slice A us.length c) us ∧ Below w.heap.size w w' := by
  obtain ⟨wb, hwb⟩ : ∃ u, u = (w.alloc (.cells #[.int .i64 0, .int .i64 0, .slice none 0 0] 26)) := ⟨_, rfl⟩
  have sb : wb.heap.size = w.heap.size + 1 := by rw [hwb]; simp
  have bB : Below w.heap.size w wb := by rw [hwb]; exact (Below.refl _ _).alloc (Nat.le_refl _) _
  have bZ : Bk wb w.heap.size 26 #[.int .i64 0, .int .i64 0, .slice none 0 0] := by rw [hwb]; exact Bk.new w _ _
  have hcdb := hcd.st bB
  go_enter Tryz.func25, Tryz.ntmps25
  go_wp2_with fail
  rw [← hwb]
  (with_reducible refine (drawKeyPage_any A0 n c0 wb hcdb hn hnc).mono ?_)
  rintro e w3 ⟨k1, p1, us, A, c, pg, rfl, hus, ou, hb⟩
  have s3 := hb.size
  replace bZ := bZ.st hb
  have hB := bB.trans (hb.mono (by omega))
  clear hb bB hcdb hcd
  have z0 := bZ.cell 0
  have z1 := bZ.cell 1
  have z2 := bZ.cell 2
  have zf0 := bZ.frozen 0
  have zf1 := bZ.frozen 1
  have zf2 := bZ.frozen 2
  simp at z0 z1 z2
  have zl := bZ.lt
  have ho := Lib.hid (And.intro (ou.set3b (q := w.heap.size) (by omega) (.int .i64 k1) (.int .i64 p1) (.slice A us.length c)) (below_set3 (q := w.heap.size) hB (Nat.le_refl _) (.int .i64 k1) (.int .i64 p1) (.slice A us.length c)))
  clear bZ ou hB hwb
  go_wp2_with fail
  refine bodyPost_ret (v := .tuple #[.agg #[.int .i64 k1, .int .i64 p1, .slice A us.length c], .int .i64 pg]) (by simp [results, Tryz.results25, go_sem, z0, z1, z2]) rfl ?_
  exact ⟨k1, p1, us, A, c, pg, rfl, hus, ho.out.1.mono (by omega) (by simp only [size_setCell]; exact Nat.le_refl _), ho.out.2⟩
set_option maxRecDepth 100000 in
set_option maxHeartbeats 4000000 in
theorem drawMergeKeyBooks_any (A0 : Option Addr) (n c0 : Nat) (w : World) (hcd : CodeAt w w.heap.size A0 n) (hn : n ≤ 9223372036854775807) (hnc : n ≤ c0) :
    Calls Tryz.prog 19 #[.slice A0 n c0] w fun e w' => ∃ (k1 p1 : Int) (us : List Int) (A : Option Addr) (c : Nat) (k2 p2 : Int) (vs : List Int) (B : Option Addr) (d : Nat), e = .returned (.tuple #[.agg #[.int .i64 k1, .int .i64 p1, .slice A us.length c], .agg #[.int .i64 k2, .int .i64 p2, .slice B vs.length d]]) ∧ (us.length ≤ 100 ∧ vs.length ≤ 100) ∧ Rd w' 0 w'.heap.size A us ∧ Rd w' 0 w'.heap.size B vs ∧ Below w.heap.size w w' := by
  obtain ⟨wb, hwb⟩ : ∃ u, u = ((w.alloc (.cells #[.int .i64 0, .int .i64 0, .slice none 0 0] 26)).alloc (.cells #[.int .i64 0, .int .i64 0, .slice none 0 0] 26)) := ⟨_, rfl⟩
  have sb : wb.heap.size = w.heap.size + 2 := by rw [hwb]; simp
  have bB : Below w.heap.size w wb := by rw [hwb]; exact ((Below.refl _ _).alloc (Nat.le_refl _) _).alloc (by simp) _
  have bZ : Bk wb w.heap.size 26 #[.int .i64 0, .int .i64 0, .slice none 0 0] := by rw [hwb]; exact (Bk.new w _ _).alloc _
  have bY : Bk wb (w.heap.size + 1) 26 #[.int .i64 0, .int .i64 0, .slice none 0 0] := by rw [hwb]; exact Bk.new2 w _ _ _
  have hcdb := hcd.st bB
  have hc := Cur.fresh (c := c0) hcdb hn hnc
  have hB := bB.alloc (by omega) (.cells #[.slice A0 n c0, .int .i64 0, .int .u64 0] 102)
  replace bZ := bZ.alloc (.cells #[.slice A0 n c0, .int .i64 0, .int .u64 0] 102)
  replace bY := bY.alloc (.cells #[.slice A0 n c0, .int .i64 0, .int .u64 0] 102)
  go_enter Tryz.func19, Tryz.ntmps19
  go_wp2_with fail
  rw [← hwb]
  obtain ⟨w2, hw2⟩ : ∃ u, u = wb.alloc (.cells #[.slice A0 n c0, .int .i64 0, .int .u64 0] 102) := ⟨_, rfl⟩
  have s2 : w2.heap.size = w.heap.size + 3 := by rw [hw2]; simp; omega
  rw [← hw2] at hc hB bZ bY ⊢
  rw [sb] at hc
  clear hw2 hwb bB hcdb hcd
  (with_reducible refine (keyPair_any (w.heap.size + 2) 0 _ hc (by omega)).mono ?_)
  rintro e w3 ⟨k1, p1, us, A, c, k2, p2, vs, B, d, rfl, hus, ru, rv, hcn, fa⟩
  have s3 := fa.size
  replace bZ := bZ.fr fa (by omega)
  replace bY := bY.fr fa (by omega)
  replace hB := hB.trans (fa.below (B := w.heap.size) (by omega) (by omega))
  clear hc hcn fa
  have z0 := bZ.cell 0
  have z1 := bZ.cell 1
  have z2 := bZ.cell 2
  have zf0 := bZ.frozen 0
  have zf1 := bZ.frozen 1
  have zf2 := bZ.frozen 2
  simp at z0 z1 z2
  have zl := bZ.lt
  have y0 := bY.cell 0
  have y1 := bY.cell 1
  have y2 := bY.cell 2
  have yf0 := bY.frozen 0
  have yf1 := bY.frozen 1
  have yf2 := bY.frozen 2
  simp at y0 y1 y2
  have yl := bY.lt
  have ho := Lib.hid (And.intro ((ru.set3 (q := w.heap.size) (by omega) (.int .i64 k1) (.int .i64 p1) (.slice A us.length c)).set3 (q := w.heap.size + 1) (by omega) (.int .i64 k2) (.int .i64 p2) (.slice B vs.length d)) (And.intro ((rv.set3 (q := w.heap.size) (by omega) (.int .i64 k1) (.int .i64 p1) (.slice A us.length c)).set3 (q := w.heap.size + 1) (by omega) (.int .i64 k2) (.int .i64 p2) (.slice B vs.length d)) (below_set3 (q := w.heap.size + 1) (below_set3 (q := w.heap.size) hB (Nat.le_refl _) (.int .i64 k1) (.int .i64 p1) (.slice A us.length c)) (by omega) (.int .i64 k2) (.int .i64 p2) (.slice B vs.length d))))
  clear bZ bY ru rv hB
  go_wp2_with fail
  refine bodyPost_ret (v := .tuple #[.agg #[.int .i64 k1, .int .i64 p1, .slice A us.length c], .agg #[.int .i64 k2, .int .i64 p2, .slice B vs.length d]]) (by simp [results, Tryz.results19, go_sem, z0, z1, z2, y0, y1, y2]) rfl ?_
  exact ⟨k1, p1, us, A, c, k2, p2, vs, B, d, rfl, hus, ho.out.1.std, ho.out.2.1.std, ho.out.2.2⟩
set_option maxRecDepth 100000 in
set_option maxHeartbeats 8000000 in
theorem drawParseKeyBook_any (A0 : Option Addr) (n c0 : Nat) (w : World) (hcd : CodeAt w w.heap.size A0 n) (hn : n ≤ 9223372036854775807) (hnc : n ≤ c0) :
    Calls Tryz.prog 27 #[.slice A0 n c0] w fun e w' => ∃ t : ByteArray, e = .returned (.string t) ∧ t.size ≤ 3000 ∧ Below w.heap.size w w' := by
  obtain ⟨w1, hw1⟩ : ∃ u, u = w.alloc (.cells #[.slice A0 n c0, .int .i64 0, .int .u64 0] 102) := ⟨_, rfl⟩
  have hc : Cur w1 w.heap.size 0 := by rw [hw1]; exact Cur.fresh (c := c0) hcd hn hnc
  have hB : Below w.heap.size w w1 := by rw [hw1]; exact (Below.refl _ _).alloc (Nat.le_refl _) _
  have s1 : w1.heap.size = w.heap.size + 1 := by rw [hw1]; simp
  go_enter Tryz.func27, Tryz.ntmps27
  go_wp2_with fail
  rw [← hw1]
  clear hw1 hcd
  (with_reducible refine (keyBook_any w.heap.size 0 _ hc (by omega)).mono ?_)
  rintro e w2 ⟨k1, p1, us, A, c, rfl, -, hus, ou, hcn, fa⟩
  have s2 := fa.size
  replace hB := hB.trans (fa.below (B := w.heap.size) (by omega) (by omega))
  clear hc fa
  have hc := hcn
  clear hcn
  have ru := ou.rd'
  clear ou
  go_wp2_with fail
  obtain ⟨w3, hw3⟩ : ∃ u, u = w2.alloc (.cells #[.int .i64 k1, .int .i64 p1, .slice A us.length c] 26) := ⟨_, rfl⟩
  rw [← hw3]
  have e3 : w3.heap.size = w2.heap.size + 1 := by rw [hw3]; simp
  have s3 : w2.heap.size + 1 ≤ w3.heap.size := by omega
  have b3 : Below w2.heap.size w2 w3 := by rw [hw3]; exact (Below.refl _ _).alloc (Nat.le_refl _) _
  have bk : Bk w3 (w2.heap.size) 26 #[.int .i64 k1, .int .i64 p1, .slice A us.length c] := by rw [hw3]; exact Bk.new _ _ _
  replace hc := hc.st b3
  replace hB := hB.trans (Below.mono b3 hB.size)
  replace ru := ru.st b3
  replace e3 := Lib.hid e3
  clear b3 hw3
  obtain ⟨v, hv⟩ : ∃ v, kbB k1 p1 us = v := ⟨_, rfl⟩
  have hvH := Lib.hid hv
  clear hv
  (with_reducible refine (kyGood_w k1 p1 us A c _ ru (by omega) v hvH.out).mono ?_)
  rintro e w4 ⟨rfl, b4⟩
  have s4 : w3.heap.size ≤ w4.heap.size := b4.size
  replace hc := hc.st b4
  replace hB := hB.trans (Below.mono b4 hB.size)
  replace ru := ru.st b4
  replace bk := bk.st b4
  clear b4
  cases v with
  | false =>
    obtain ⟨o, ho⟩ : ∃ o, o = Obj.cells #[.string { data := #[] }, .string { data := #[55, 55] }, .string { data := #[55, 55, 32] }, .string { data := #[55, 55, 32, 49, 48, 45] }, .string { data := #[48, 55, 55, 32, 49, 48] }, .string { data := #[55, 55, 32, 49, 48, 45, 49, 48] }, .string { data := #[55, 55, 32, 49, 48, 45, 50, 45, 50] }, .string { data := #[49, 48, 48, 48, 48, 48, 48, 48, 48, 49, 32, 53] }, .string { data := #[55, 55, 32, 54, 49] }] 9 (0, 0) := ⟨_, rfl⟩
    have rt : RdT (w4.alloc o) w4.heap.size (w4.heap.size + 1) (some ⟨w4.heap.size, 0, none⟩) 9 40 := by rw [ho]; exact RdT.new _ _ #[.string { data := #[] }, .string { data := #[55, 55] }, .string { data := #[55, 55, 32] }, .string { data := #[55, 55, 32, 49, 48, 45] }, .string { data := #[48, 55, 55, 32, 49, 48] }, .string { data := #[55, 55, 32, 49, 48, 45, 49, 48] }, .string { data := #[55, 55, 32, 49, 48, 45, 50, 45, 50] }, .string { data := #[49, 48, 48, 48, 48, 48, 48, 48, 48, 49, 32, 53] }, .string { data := #[55, 55, 32, 54, 49] }] 40 (by kernel_rfl)
    replace hc := hc.alloc o
    replace hB := hB.alloc (by omega) o
    have so : (w4.alloc o).heap.size = w4.heap.size + 1 := by simp
    have soH := Lib.hid so
    clear so ru bk
    go_wp2_with fail
    rw [← ho]
    clear ho
    (with_reducible refine (of_any w.heap.size _ 9 40 _ _ _ hc (by omega) rt (by omega) (by omega) (.inr (by omega))).mono ?_)
    rintro e w9 ⟨t, rfl, ht, -, fa⟩
    have hfin := Lib.hid (hB.trans (fa.below (B := w.heap.size) (by omega) (by have := soH.out; omega)))
    clear hB hc rt fa
    go_wp2_with fail
    go_ret
    exact ⟨t, rfl, by omega, hfin.out⟩
  | true =>
    have xl := bk.lt
    have x0 := bk.cell 0
    have x1 := bk.cell 1
    have x2 := bk.cell 2
    simp at x0 x1 x2
    have hkl := kbTo_lenG hvH.out
    go_wp2_with fail
    clear xl x0 x1 x2
    (with_reducible refine (kyText_any k1 p1 us A c _ ru hvH.out).mono ?_)
    rintro e w5 ⟨rfl, b5⟩
    have s5 : w4.heap.size ≤ w5.heap.size := b5.size
    replace hc := hc.st b5
    replace hB := hB.trans (Below.mono b5 hB.size)
    replace ru := ru.st b5
    replace bk := bk.st b5
    clear b5
    obtain ⟨t0, ht0⟩ : ∃ t, t = str (kbTo k1 p1 us us.length) := ⟨_, rfl⟩
    have htl : t0.size ≤ 2000 := by rw [ht0, str_size]; exact hkl
    rw [← ht0]
    clear ht0 hkl ru bk hvH
    go_wp2_with fail
    (with_reducible refine (one_any w.heap.size _ 3 _ hc (by omega) (by omega)).mono ?_)
    rintro e w6 ⟨v, rfl, hcn, f6, z6⟩
    clear hc
    have hc := hcn
    clear hcn
    have s6 : w5.heap.size ≤ w6.heap.size := f6.size
    replace hB := hB.trans (Fr.below f6 (by omega) (by omega))
    clear f6 z6
    cases v with
    | false =>
      have hfin := Lib.hid hB
      clear hB hc
      go_wp2_with fail
      go_ret
      exact ⟨t0, rfl, by omega, hfin.out⟩
    | true =>
      go_wp2_with fail
      (with_reducible refine (spoilt_any w.heap.size _ t0 _ _ hc (by omega) (by omega) (by decide) (by decide)).mono ?_)
      rintro e w9 ⟨t, rfl, ht, -, fa⟩
      have hfin := Lib.hid (hB.trans (fa.below (B := w.heap.size) (by omega) (by omega)))
      clear hB hc fa
      go_wp2_with fail
      go_ret
      exact ⟨t, rfl, by omega, hfin.out⟩
end Go.Proofs.YtjhbffndiaggmaaGreatDoor
