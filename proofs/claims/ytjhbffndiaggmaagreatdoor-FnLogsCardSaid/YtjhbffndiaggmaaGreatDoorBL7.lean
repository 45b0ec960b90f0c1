/-
  Contracts and plain laws that the walk uses, several texts in one. The conditions are named ahead of each.
-/
import Derived.Test.YtjhbffndiaggmaaGreatDoorZLCur
import Derived.Test.YtjhbffndiaggmaaGreatDoorBL3
import Derived.Test.YtjhbffndiaggmaaGreatDoorBL1
import Derived.Deep.RegionLaw

/-
  Contracts of the drawn key books: keyBook and keyPageOf. The conditions are bounds on how often the cursor has been asked.
-/
namespace Go.Proofs.YtjhbffndiaggmaaGreatDoor
open Go.RowKit Go.ChangeShapes Go.WideShapes
set_option linter.unusedVariables false
set_option linter.unusedSimpArgs false

section
variable {w w1 w2 : World} {lo hi B : Nat}
theorem Fr.then_below (h : Fr lo hi w w1) (hb : Below B w1 w2) (hB : w.heap.size ≤ B) : Fr lo hi w w2 :=
  ⟨hb.os.trans h.os, hb.tape.trans h.tape, hb.output.trans h.output, Nat.le_trans h.size hb.size, fun k hk hd => (hb.block k (by omega)).trans (h.block k hk hd)⟩
theorem Fr.setNew (h : Fr lo hi w w1) {p : Addr} (hp : w.heap.size ≤ p.block) (u : Value) : Fr lo hi w (w1.setCell p u) :=
  h.then_below ((Below.refl _ _).setCell hp u) (Nat.le_refl _)
theorem Fr.below_of (h : Fr lo hi w w1) (hB : B ≤ lo) (hs : B ≤ w.heap.size) : Below B w w1 := h.below hB hs
end
set_option maxRecDepth 100000 in
set_option maxHeartbeats 8000000 in
theorem keyBook_any (g N : Nat) (w : World) (hc : Cur w g N) (hN : N ≤ 4611686018427380000) :
    Calls Tryz.prog 99 #[.pointer (some ⟨g, 0, none⟩)] w fun e w' => ∃ (key pages : Int) (us : List Int) (A : Option Addr) (c : Nat), e = .returned (.agg #[.int .i64 key, .int .i64 pages, .slice A us.length c]) ∧ (0 ≤ pages ∧ pages ≤ 61) ∧ us.length ≤ 100 ∧
      Own w' w.heap.size w'.heap.size (.slice A us.length c) us ∧ Cur w' g (N + 300) ∧ Fr g (g + 1) w w' := by
  have hgl := hc.lt
  obtain ⟨ZB, hZB⟩ : ∃ ZB, ZB = Obj.cells #[.int .i64 0, .int .i64 0, .slice none 0 0] 26 (0, 0) := ⟨_, rfl⟩
  have bZ0 : Bk (w.alloc ZB) w.heap.size 26 #[.int .i64 0, .int .i64 0, .slice none 0 0] := by rw [hZB]; exact Bk.new w _ _
  have hF0 := (Fr.refl g (g + 1) w).alloc ZB
  have hc0 := hc.alloc ZB
  have hs0 := Lib.hid (show (w.alloc ZB).heap.size = w.heap.size + 1 by simp)
  go_enter Tryz.func99, Tryz.ntmps99
  go_wp2_with fail
  rw [← hZB]
  (with_reducible refine (pick_any g N 60000 _ hc0 (by omega) (by omega)).mono ?_)
  rintro e w1 ⟨x, rfl, hx, hc1, hf1, hs1⟩
  have hs1H := Lib.hid (hs1.trans hs0.out)
  have hl1 : w.heap.size + 1 ≤ w1.heap.size := by have := hs1H.out; omega
  have hF1 := hF0.trans hf1
  have bZ1 := bZ0.fr hf1 (by omega)
  obtain ⟨o1, ho1⟩ : ∃ o, o = Obj.cells #[.int .i64 0, .int .i64 77, .int .i64 x, .int .i64 1000000000] 3 (0, 0) := ⟨_, rfl⟩
  have hr1 : Rd (w1.alloc o1) w1.heap.size (w1.heap.size + 1) (some ⟨w1.heap.size, 0, none⟩) [0, 77, x, 1000000000] := by rw [ho1]; exact Rd.one w1 _ _ [0, 77, x, 1000000000] rfl
  have hc1a := hc1.alloc o1
  have hF1a := hF1.alloc o1
  have bZ1a := bZ1.alloc o1
  have hs1a := Lib.hid (show (w1.alloc o1).heap.size = w1.heap.size + 1 by simp)
  clear hf1 hs1 hc1 hF1 bZ1 hc0 hF0 bZ0
  go_wp2_with fail
  rw [← ho1]
  (with_reducible refine (among_any g (N + 2) [0, 77, x, 1000000000] _ 4 _ _ hc1a (by omega) hr1 rfl (by simp) (by simp) (.inr (by omega))).mono ?_)
  rintro e w2 ⟨key, rfl, hkey, hc2, hf2, hs2⟩
  have hs2H := Lib.hid (hs2.trans hs1a.out)
  have hl2 : w1.heap.size + 1 ≤ w2.heap.size := by have := hs2H.out; omega
  have hF2 := hF1a.trans hf2
  have bZ2 := bZ1a.fr hf2 (by omega)
  obtain ⟨o2, ho2⟩ : ∃ o, o = Obj.cells #[.int .i64 1, .int .i64 2, .int .i64 5, .int .i64 10, .int .i64 60] 3 (0, 0) := ⟨_, rfl⟩
  have hr2 : Rd (w2.alloc o2) w2.heap.size (w2.heap.size + 1) (some ⟨w2.heap.size, 0, none⟩) [1, 2, 5, 10, 60] := by rw [ho2]; exact Rd.one w2 _ _ [1, 2, 5, 10, 60] rfl
  have hc2a := hc2.alloc o2
  have hF2a := hF2.alloc o2
  have bZ2a := bZ2.alloc o2
  have hs2a := Lib.hid (show (w2.alloc o2).heap.size = w2.heap.size + 1 by simp)
  clear hf2 hs2 hc2 hF2 bZ2 hc1a hF1a bZ1a hr1 ho1 hkey
  go_wp2_with fail
  rw [← ho2]
  (with_reducible refine (among_any g (N + 4) [1, 2, 5, 10, 60] _ 5 _ _ hc2a (by omega) hr2 rfl (by simp) (by simp) (.inr (by omega))).mono ?_)
  rintro e w3 ⟨pages, rfl, hpages, hc3, hf3, hs3⟩
  have hpg : 1 ≤ pages ∧ pages ≤ 60 := by simp at hpages; omega
  have hs3H := Lib.hid (hs3.trans hs2a.out)
  have hl3 : w2.heap.size + 1 ≤ w3.heap.size := by have := hs3H.out; omega
  have hF3 := hF2a.trans hf3
  have bZ3 := bZ2a.fr hf3 (by omega)
  obtain ⟨o3, ho3⟩ : ∃ o, o = Obj.cells #[.int .i64 key, .int .i64 pages, .slice none 0 0] 26 (0, 0) := ⟨_, rfl⟩
  obtain ⟨o4, ho4⟩ : ∃ o, o = Obj.cells #[.int .i64 2, .int .i64 3, .int .i64 3, .int .i64 1] 3 (0, 0) := ⟨_, rfl⟩
  have hr4 : Rd ((w3.alloc o3).alloc o4) (w3.heap.size + 1) (w3.heap.size + 2) (some ⟨w3.heap.size + 1, 0, none⟩) [2, 3, 3, 1] := by
    have h := Rd.one (w3.alloc o3) #[.int .i64 2, .int .i64 3, .int .i64 3, .int .i64 1] 3 [2, 3, 3, 1] rfl
    rw [ho4]
    simpa using h
  have bk4 : Bk ((w3.alloc o3).alloc o4) w3.heap.size 26 #[.int .i64 key, .int .i64 pages, .slice none 0 0] := by rw [ho3]; exact (Bk.new w3 _ _).alloc _
  have hc4 := (hc3.alloc o3).alloc o4
  have hF4 := (hF3.alloc o3).alloc o4
  have bZ4 := (bZ3.alloc o3).alloc o4
  have hs4 := Lib.hid (show ((w3.alloc o3).alloc o4).heap.size = w3.heap.size + 2 by simp)
  clear hf3 hs3 hc3 hF3 bZ3 hc2a hF2a bZ2a hr2 ho2 hpages
  go_wp2_with fail
  rw [← ho3, ← ho4]
  (with_reducible refine (among_any g (N + 6) [2, 3, 3, 1] _ 4 _ _ hc4 (by omega) hr4 rfl (by simp) (by simp) (.inr (by omega))).mono ?_)
  rintro e w5 ⟨few, rfl, hfew, hc5, hf5, hs5⟩
  have hfw : few ≤ 3 := by simp at hfew; omega
  have hs5H := Lib.hid (hs5.trans hs4.out)
  have hl5 : w3.heap.size + 2 ≤ w5.heap.size := by have := hs5H.out; omega
  have hF5 := hF4.trans hf5
  have bZ5 := bZ4.fr hf5 (by omega)
  have bk5 := bk4.fr hf5 (by omega)
  clear hf5 hs5 hc4 hF4 bZ4 bk4 hr4 ho4 ho3 hfew
  go_wp2_with fail
  go_loopw [5] (fun i wr => ∃ (n : Nat) (us : List Int) (A : Option Addr) (k c : Nat), (n : Int) ≤ pages ∧ i = .int .i64 n ∧ us.length = k ∧ k ≤ n ∧ Bk wr w3.heap.size 26 #[.int .i64 key, .int .i64 pages, .slice A k c] ∧ Own wr w5.heap.size wr.heap.size (.slice A k c) us ∧ Cur wr g (N + 8 + 2 * n) ∧ Fr g (g + 1) w wr ∧ Bk wr w.heap.size 26 #[.int .i64 0, .int .i64 0, .slice none 0 0] ∧ w5.heap.size ≤ wr.heap.size) (fun i _ => 61 - (intOf i).toNat)
  case atStart => exact ⟨0, [], none, 0, 0, by omega, rfl, rfl, Nat.le_refl _, bk5, Own.nil, hc5, hF5, bZ5, Nat.le_refl _⟩
  case round =>
    clear bk5 hc5 hF5 bZ5
    obtain ⟨n, us, A, k, c, hn, rfl, huk, hkn, bkr, ownr, hcr, hFr, bZr, hsr⟩ := hrel
    have hukH := Lib.hid huk
    clear huk
    have y1 := bkr.cell 1
    have y2 := bkr.cell 2
    have hgk := bkr.lt
    simp at y1 y2
    by_cases hlt : (n : Int) < pages
    · go_wp2_with fail
      (with_reducible refine (one_any g (N + 8 + 2 * n) few _ hcr (by omega) (by omega)).mono ?_)
      rintro e w6 ⟨v, rfl, hc6, hf6, hs6⟩
      have hs6H := Lib.hid hs6
      have hl6 : wr.heap.size ≤ w6.heap.size := by omega
      have hF6 := hFr.trans hf6
      have bk6 := bkr.fr hf6 (by omega)
      have bZ6 := bZr.fr hf6 (by omega)
      have own6 := (ownr.fr hf6 (.inr (by omega))).mono (Nat.le_refl _) hl6
      clear hf6 hs6 y1 y2 bkr ownr hcr hFr bZr hgk
      cases v with
      | false =>
        have bk6H := Lib.hid bk6
        have own6H := Lib.hid own6
        have hF6H := Lib.hid hF6
        have bZ6H := Lib.hid bZ6
        have hc6H := Lib.hid hc6
        clear bk6 own6 hF6 bZ6 hc6
        go_wp2_with fail
        go_roundw
        case rel => exact ⟨n + 1, us, A, k, c, by omega, by go_num, hukH.out, by omega, bk6H.out, own6H.out, hc6H.out.le (by omega), hF6H.out, bZ6H.out, by omega⟩
        case measure => simp [intOf]; omega
      | true =>
        have y2 := bk6.cell 2
        have f2 := bk6.frozen 2
        have hgk := bk6.lt
        simp at y2
        have own6H := Lib.hid own6
        have bk6H := Lib.hid bk6
        have hF6H := Lib.hid hF6
        have bZ6H := Lib.hid bZ6
        have hc6H := Lib.hid hc6
        clear bk6 own6 hF6 bZ6 hc6
        go_wp2_with (at_builtin; refine wp_append_ints rfl (.tmp 28) (.tmp 30) (v := .slice A k c) rfl rfl (own6H.out.alloc _) (ys := [(n : Int)]) rfl ((Rd.one w6 _ _ _ rfl).mono (Nat.zero_le _) (by simp)) (by have := hukH.out; simp; omega) (by simp; omega) ?_; intro v8 w8 ho8 hg8 hb8 hat8; (obtain ⟨A8, c8, rfl, -, -⟩ := ho8.rd); (have hl8 : (us ++ [(n : Int)]).length = k + 1 := by have h9 := hukH.out; rw [List.length_append, h9]; rfl); rw [hl8] at ho8 ⊢; (have bk8 := (bk6H.out.alloc (.cells #[.int .i64 (n : Int)] 3)).below hb8 (by omega)); (have y8 := bk8.cell 2); (have f8 := bk8.frozen 2); (simp at y8))
        have hlw8 : w6.heap.size ≤ w8.heap.size := by have := hb8.size; simp at this; omega
        have hbk9 := Lib.hid (show Bk (w8.setCell ⟨w3.heap.size, 2, none⟩ (.slice A8 (k + 1) c8)) w3.heap.size 26 #[.int .i64 key, .int .i64 pages, .slice A8 (k + 1) c8] by simpa using bk8.set_ 2 (.slice A8 (k + 1) c8))
        have hF9 := ((hF6H.out.alloc (.cells #[.int .i64 (n : Int)] 3)).then_below hb8 (by omega)).setNew (p := ⟨w3.heap.size, 2, none⟩) (by dsimp only; omega) (.slice A8 (k + 1) c8)
        have hc9 := ((hc6H.out.alloc (.cells #[.int .i64 (n : Int)] 3)).below hb8 (by omega)).setCell (p := ⟨w3.heap.size, 2, none⟩) (by dsimp only; omega) (.slice A8 (k + 1) c8)
        have hZ9 := ((bZ6H.out.alloc (.cells #[.int .i64 (n : Int)] 3)).below hb8 (by omega)).far (p := ⟨w3.heap.size, 2, none⟩) (by dsimp only; omega) (.slice A8 (k + 1) c8)
        have ho9 := ho8.setCell (p := ⟨w3.heap.size, 2, none⟩) (.inl (by dsimp only; omega)) (.slice A8 (k + 1) c8)
        refine ⟨⟨n + 1, us ++ [(n : Int)], A8, k + 1, c8, by omega, by go_num, hl8, by omega, hbk9.out, ho9.mono (Nat.le_refl _) (by rw [size_setCell]; exact Nat.le_refl _), hc9.le (by omega), hF9, hZ9, by rw [size_setCell]; omega⟩, ?_⟩
        simp [intOf]; omega
    · have hle : n ≤ 60 := by omega
      obtain ⟨wl, rfl⟩ : ∃ wl, wl = wr := ⟨_, rfl⟩
      go_wp2_with fail
      (with_reducible refine (pick_any g (N + 8 + 2 * n) 30 _ hcr (by omega) (by omega)).mono ?_)
      rintro e wt ⟨x, rfl, hx, hct0, hft, hst⟩
      have hstH := Lib.hid hst
      have hlt1 : wl.heap.size ≤ wt.heap.size := by omega
      have hFt := hFr.trans hft
      have bkt := bkr.fr hft (by omega)
      have bZt := bZr.fr hft (by omega)
      have ownt := (ownr.fr hft (.inr (by omega))).mono (Nat.le_refl _) hlt1
      have hct := hct0.le (show N + 8 + 2 * n + 2 ≤ N + 140 by omega)
      have hus : Hid (us.length = k) := hukH
      have hk100 : k ≤ 60 := by omega
      clear hft hst y1 y2 bkr ownr hcr hFr bZr hgk hct0
      by_cases h0 : x = 0
      · subst h0
        obtain ⟨ox, hox⟩ : ∃ o, o = Obj.cells #[.int .i64 (-1), .int .i64 1000000001] 3 (0, 0) := ⟨_, rfl⟩
        have hrx : Rd (wt.alloc ox) wt.heap.size (wt.heap.size + 1) (some ⟨wt.heap.size, 0, none⟩) [-1, 1000000001] := by rw [hox]; exact Rd.one wt _ _ [-1, 1000000001] rfl
        have hcx := hct.alloc ox
        have hFx := hFt.alloc ox
        have bZx := bZt.alloc ox
        have bkx := bkt.alloc ox
        have ownx := ownt.alloc ox
        have hsx := Lib.hid (show (wt.alloc ox).heap.size = wt.heap.size + 1 by simp)
        clear hct hFt bZt bkt ownt
        go_wp2_with fail
        rw [← hox]
        (with_reducible refine (among_any g (N + 140) [-1, 1000000001] _ 2 _ _ hcx (by omega) hrx rfl (by simp) (by simp) (.inr (by omega))).mono ?_)
        rintro e w12 ⟨kk, rfl, hkk, hc12, hf12, hs12⟩
        have hs12H := Lib.hid (hs12.trans hsx.out)
        have hl12 : wt.heap.size + 1 ≤ w12.heap.size := by have := hs12H.out; omega
        have hF12 := hFx.trans hf12
        have bZ12 := bZx.fr hf12 (by omega)
        have bk12 := bkx.fr hf12 (by omega)
        have own12 := ownx.fr hf12 (.inr (by omega))
        have xf := bk12.frozen 0
        have xl := bk12.lt
        have xe0 := bk12.cell 0
        have xe1 := bk12.cell 1
        have xe2 := bk12.cell 2
        have xz0 := bZ12.frozen 0
        have xz1 := bZ12.frozen 1
        have xz2 := bZ12.frozen 2
        have xt0 := bZ12.cell 0
        have xt1 := bZ12.cell 1
        have xt2 := bZ12.cell 2
        simp at xe0 xe1 xe2 xt0 xt1 xt2
        skip
        obtain ⟨wf, hwf⟩ : ∃ wf, wf = w12.setCell ⟨w3.heap.size, 0, none⟩ (.int .i64 kk) := ⟨_, rfl⟩
        have bkf : Bk wf w3.heap.size 26 #[.int .i64 kk, .int .i64 pages, .slice A k c] := by rw [hwf]; simpa using bk12.set_ 0 (.int .i64 kk)
        have bZf : Bk wf w.heap.size 26 #[.int .i64 0, .int .i64 0, .slice none 0 0] := by rw [hwf]; exact bZ12.far (by dsimp only; omega) _
        have hlf : w12.heap.size ≤ wf.heap.size := by rw [hwf, size_setCell]; exact Nat.le_refl _
        have ownf : Own wf w5.heap.size wf.heap.size (.slice A k c) us := by rw [hwf]; exact (own12.setCell (.inl (by dsimp only; omega)) _).mono (Nat.le_refl _) (by rw [size_setCell]; omega)
        have hcf : Cur wf g (N + 142) := by rw [hwf]; exact hc12.setCell (by dsimp only; omega) _
        have hFf : Fr g (g + 1) w wf := by rw [hwf]; exact hF12.setNew (by dsimp only; omega) _
        clear hf12 hs12 hc12 hF12 bZ12 bk12 own12 hcx hFx bZx bkx ownx hrx hox hkk
        have v0 := bkf.cell 0
        have v1 := bkf.cell 1
        have v2 := bkf.cell 2
        have t0 := bZf.cell 0
        have t1 := bZf.cell 1
        have t2 := bZf.cell 2
        have f0 := bZf.frozen 0
        have f1 := bZf.frozen 1
        have f2 := bZf.frozen 2
        have ql := bZf.lt
        have ql2 := bkf.lt
        simp at v0 v1 v2 t0 t1 t2
        have ownH := Lib.hid (((ownf.setCell (p := ⟨w.heap.size, 0, none⟩) (.inl (by dsimp only; omega)) (.int .i64 kk)).setCell (p := ⟨w.heap.size, 1, none⟩) (.inl (by dsimp only; omega)) (.int .i64 pages)).setCell (p := ⟨w.heap.size, 2, none⟩) (.inl (by dsimp only; omega)) (.slice A k c))
        have hcH := Lib.hid (((hcf.setCell (p := ⟨w.heap.size, 0, none⟩) (by dsimp only; omega) (.int .i64 kk)).setCell (p := ⟨w.heap.size, 1, none⟩) (by dsimp only; omega) (.int .i64 pages)).setCell (p := ⟨w.heap.size, 2, none⟩) (by dsimp only; omega) (.slice A k c))
        have hFH := Lib.hid (((hFf.setNew (p := ⟨w.heap.size, 0, none⟩) (Nat.le_refl _) (.int .i64 kk)).setNew (p := ⟨w.heap.size, 1, none⟩) (Nat.le_refl _) (.int .i64 pages)).setNew (p := ⟨w.heap.size, 2, none⟩) (Nat.le_refl _) (.slice A k c))
        clear bkf bZf ownf hcf hFf
        go_wp2_with fail
        rw [← hwf]
        refine bodyPost_ret (v := .agg #[.int .i64 kk, .int .i64 pages, .slice A k c]) (by simp [results, Tryz.results99, go_sem, t0, t1, t2]) rfl ?_
        have husx := hus.out
        exact ⟨kk, pages, us, A, c, by rw [husx], by omega, by omega, by rw [husx]; exact ownH.out.mono (by omega) (by simp only [size_setCell]; exact Nat.le_refl _), hcH.out.le (by omega), hFH.out⟩
      · by_cases h1 : x = 1
        · subst h1
          obtain ⟨ox, hox⟩ : ∃ o, o = Obj.cells #[.int .i64 0, .int .i64 61] 3 (0, 0) := ⟨_, rfl⟩
          have hrx : Rd (wt.alloc ox) wt.heap.size (wt.heap.size + 1) (some ⟨wt.heap.size, 0, none⟩) [0, 61] := by rw [hox]; exact Rd.one wt _ _ [0, 61] rfl
          have hcx := hct.alloc ox
          have hFx := hFt.alloc ox
          have bZx := bZt.alloc ox
          have bkx := bkt.alloc ox
          have ownx := ownt.alloc ox
          have hsx := Lib.hid (show (wt.alloc ox).heap.size = wt.heap.size + 1 by simp)
          clear hct hFt bZt bkt ownt
          go_wp2_with fail
          rw [← hox]
          (with_reducible refine (among_any g (N + 140) [0, 61] _ 2 _ _ hcx (by omega) hrx rfl (by simp) (by simp) (.inr (by omega))).mono ?_)
          rintro e w12 ⟨pp, rfl, hkk, hc12, hf12, hs12⟩
          have hs12H := Lib.hid (hs12.trans hsx.out)
          have hl12 : wt.heap.size + 1 ≤ w12.heap.size := by have := hs12H.out; omega
          have hF12 := hFx.trans hf12
          have bZ12 := bZx.fr hf12 (by omega)
          have bk12 := bkx.fr hf12 (by omega)
          have own12 := ownx.fr hf12 (.inr (by omega))
          have xf := bk12.frozen 1
          have xl := bk12.lt
          have xe0 := bk12.cell 0
          have xe1 := bk12.cell 1
          have xe2 := bk12.cell 2
          have xz0 := bZ12.frozen 0
          have xz1 := bZ12.frozen 1
          have xz2 := bZ12.frozen 2
          have xt0 := bZ12.cell 0
          have xt1 := bZ12.cell 1
          have xt2 := bZ12.cell 2
          simp at xe0 xe1 xe2 xt0 xt1 xt2
          have hpp : 0 ≤ pp ∧ pp ≤ 61 := by simp at hkk; omega
          obtain ⟨wf, hwf⟩ : ∃ wf, wf = w12.setCell ⟨w3.heap.size, 1, none⟩ (.int .i64 pp) := ⟨_, rfl⟩
          have bkf : Bk wf w3.heap.size 26 #[.int .i64 key, .int .i64 pp, .slice A k c] := by rw [hwf]; simpa using bk12.set_ 1 (.int .i64 pp)
          have bZf : Bk wf w.heap.size 26 #[.int .i64 0, .int .i64 0, .slice none 0 0] := by rw [hwf]; exact bZ12.far (by dsimp only; omega) _
          have hlf : w12.heap.size ≤ wf.heap.size := by rw [hwf, size_setCell]; exact Nat.le_refl _
          have ownf : Own wf w5.heap.size wf.heap.size (.slice A k c) us := by rw [hwf]; exact (own12.setCell (.inl (by dsimp only; omega)) _).mono (Nat.le_refl _) (by rw [size_setCell]; omega)
          have hcf : Cur wf g (N + 142) := by rw [hwf]; exact hc12.setCell (by dsimp only; omega) _
          have hFf : Fr g (g + 1) w wf := by rw [hwf]; exact hF12.setNew (by dsimp only; omega) _
          clear hf12 hs12 hc12 hF12 bZ12 bk12 own12 hcx hFx bZx bkx ownx hrx hox hkk
          have v0 := bkf.cell 0
          have v1 := bkf.cell 1
          have v2 := bkf.cell 2
          have t0 := bZf.cell 0
          have t1 := bZf.cell 1
          have t2 := bZf.cell 2
          have f0 := bZf.frozen 0
          have f1 := bZf.frozen 1
          have f2 := bZf.frozen 2
          have ql := bZf.lt
          have ql2 := bkf.lt
          simp at v0 v1 v2 t0 t1 t2
          have ownH := Lib.hid (((ownf.setCell (p := ⟨w.heap.size, 0, none⟩) (.inl (by dsimp only; omega)) (.int .i64 key)).setCell (p := ⟨w.heap.size, 1, none⟩) (.inl (by dsimp only; omega)) (.int .i64 pp)).setCell (p := ⟨w.heap.size, 2, none⟩) (.inl (by dsimp only; omega)) (.slice A k c))
          have hcH := Lib.hid (((hcf.setCell (p := ⟨w.heap.size, 0, none⟩) (by dsimp only; omega) (.int .i64 key)).setCell (p := ⟨w.heap.size, 1, none⟩) (by dsimp only; omega) (.int .i64 pp)).setCell (p := ⟨w.heap.size, 2, none⟩) (by dsimp only; omega) (.slice A k c))
          have hFH := Lib.hid (((hFf.setNew (p := ⟨w.heap.size, 0, none⟩) (Nat.le_refl _) (.int .i64 key)).setNew (p := ⟨w.heap.size, 1, none⟩) (Nat.le_refl _) (.int .i64 pp)).setNew (p := ⟨w.heap.size, 2, none⟩) (Nat.le_refl _) (.slice A k c))
          clear bkf bZf ownf hcf hFf
          go_wp2_with fail
          rw [← hwf]
          refine bodyPost_ret (v := .agg #[.int .i64 key, .int .i64 pp, .slice A k c]) (by simp [results, Tryz.results99, go_sem, t0, t1, t2]) rfl ?_
          have husx := hus.out
          exact ⟨key, pp, us, A, c, by rw [husx], by omega, by omega, by rw [husx]; exact ownH.out.mono (by omega) (by simp only [size_setCell]; exact Nat.le_refl _), hcH.out.le (by omega), hFH.out⟩
        · by_cases h2 : x = 2
          · subst h2
            obtain ⟨PB, hPB⟩ : ∃ o, o = Obj.cells #[.int .i64 (-1), .int .i64 0, .int .i64 pages] 3 (0, 0) := ⟨_, rfl⟩
            have hrx : Rd ((wt.alloc (.cells #[.int .i64 (-1), .int .i64 0, .int .i64 pages] 3)).drew) wt.heap.size (wt.heap.size + 1) (some ⟨wt.heap.size, 0, none⟩) [-1, 0, pages] := (Rd.one wt _ _ [-1, 0, pages] rfl).drew
            have hcx := (hct.alloc (.cells #[.int .i64 (-1), .int .i64 0, .int .i64 pages] 3)).drew
            have hFx := (hFt.alloc (.cells #[.int .i64 (-1), .int .i64 0, .int .i64 pages] 3)).drew
            have bZx := (bZt.alloc (.cells #[.int .i64 (-1), .int .i64 0, .int .i64 pages] 3)).drew
            have bkx := (bkt.alloc (.cells #[.int .i64 (-1), .int .i64 0, .int .i64 pages] 3)).drew
            have ownx := (ownt.alloc (.cells #[.int .i64 (-1), .int .i64 0, .int .i64 pages] 3)).drew
            have y1 := bkt.cell 1
            have y2 := bkt.cell 2
            have hgk := bkt.lt
            simp at y1 y2
            have hct' := Lib.hid hct
            clear hct hFt bZt bkt ownt hPB PB
            go_wp2_with fail
            go_region_law (first
              | (refine step_append_ints rfl (.tmp 50) (.tmp 56) rfl (v := .slice A k c) rfl (by first | exact own12.alloc _ | exact (own12.alloc _).drew) (ys := [kk]) rfl (by first | exact (Rd.one w12 _ _ _ rfl).mono (Nat.zero_le _) (by simp) | exact ((Rd.one w12 _ _ _ rfl).drew).mono (Nat.zero_le _) (by simp)) (by have := hus.out; simp; omega) (by first | omega | (simp <;> omega)) ?_; intro v8 w8 ho8 hg8 hb8 hat8; (obtain ⟨A8, c8, rfl, -, -⟩ := ho8.rd); (have hl8 : (us ++ [kk]).length = k + 1 := by have h9 := hus.out; rw [List.length_append, h9]; rfl); rw [hl8] at ho8 ⊢;
                  (have bk8 := (bk12.alloc (.cells #[.int .i64 kk] 3)).below hb8 (by omega)); (have y8 := bk8.cell 2); (have f8 := bk8.frozen 2); (simp at y8))
              | (go_simp; (go_at_call 122; ((with_reducible refine (among_any g (N + 140) [-1, 0, pages] _ 3 _ _ hcx (by omega) hrx rfl (by simp) (by simp) (.inr (by omega))).mono ?_); rintro e w12 ⟨kk, rfl, hkk, hc12, hf12, hs12⟩); (have hl12 : wt.heap.size + 1 ≤ w12.heap.size := by have := hf12.size; simp at this; omega); (have hs12H := Lib.hid hs12); clear hs12; (have bk12 := bkx.fr hf12 (by omega)); (have own12 := ownx.fr hf12 (.inr (by omega))); (have xe2 := bk12.cell 2); (have xl12 := bk12.lt); (simp at xe2))))
            all_goals
              have hlw8 : w12.heap.size ≤ w8.heap.size := by have := hb8.size; simp at this; omega
              have hcA := (hc12.alloc (.cells #[.int .i64 kk] 3)).below hb8 (by omega)
              have hFA := ((hFx.trans hf12).alloc (.cells #[.int .i64 kk] 3)).then_below hb8 (by omega)
              have bZA := ((bZx.fr hf12 (by omega)).alloc (.cells #[.int .i64 kk] 3)).below hb8 (by omega)
              obtain ⟨wf, hwf⟩ : ∃ wf, wf = w8.setCell ⟨w3.heap.size, 2, none⟩ (.slice A8 (k + 1) c8) := ⟨_, rfl⟩
              rw [← hwf]
              have bkf : Bk wf w3.heap.size 26 #[.int .i64 key, .int .i64 pages, (.slice A8 (k + 1) c8)] := by rw [hwf]; simpa using bk8.set_ 2 (.slice A8 (k + 1) c8)
              have bZf : Bk wf w.heap.size 26 #[.int .i64 0, .int .i64 0, .slice none 0 0] := by rw [hwf]; exact bZA.far (by dsimp only; omega) _
              have hlf : w12.heap.size ≤ wf.heap.size := by rw [hwf, size_setCell]; exact hlw8
              have ownf : Own wf w5.heap.size wf.heap.size (.slice A8 (k + 1) c8) (us ++ [kk]) := by rw [hwf]; exact (ho8.setCell (.inl (by dsimp only; omega)) _).mono (Nat.le_refl _) (by rw [size_setCell]; exact Nat.le_refl _)
              have hcf : Cur wf g (N + 142) := by rw [hwf]; exact hcA.setCell (by dsimp only; omega) _
              have hFf : Fr g (g + 1) w wf := by rw [hwf]; exact hFA.setNew (by dsimp only; omega) _
              have hl8H := Lib.hid hl8
              clear hwf hcA hFA bZA hf12 hc12 bk12 own12 hcx hFx bZx bkx ownx hrx hkk hb8 hg8 hat8 ho8 bk8 f8 y8 hl8 xe2 y1 y2 hgk hct'
              have v0 := bkf.cell 0
              have v1 := bkf.cell 1
              have v2 := bkf.cell 2
              have t0 := bZf.cell 0
              have t1 := bZf.cell 1
              have t2 := bZf.cell 2
              have f0 := bZf.frozen 0
              have f1 := bZf.frozen 1
              have f2 := bZf.frozen 2
              have ql := bZf.lt
              have ql2 := bkf.lt
              simp at v0 v1 v2 t0 t1 t2
              have ownH := Lib.hid (((ownf.setCell (p := ⟨w.heap.size, 0, none⟩) (.inl (by dsimp only; omega)) (.int .i64 key)).setCell (p := ⟨w.heap.size, 1, none⟩) (.inl (by dsimp only; omega)) (.int .i64 pages)).setCell (p := ⟨w.heap.size, 2, none⟩) (.inl (by dsimp only; omega)) (.slice A8 (k + 1) c8))
              have hcH := Lib.hid (((hcf.setCell (p := ⟨w.heap.size, 0, none⟩) (by dsimp only; omega) (.int .i64 key)).setCell (p := ⟨w.heap.size, 1, none⟩) (by dsimp only; omega) (.int .i64 pages)).setCell (p := ⟨w.heap.size, 2, none⟩) (by dsimp only; omega) (.slice A8 (k + 1) c8))
              have hFH := Lib.hid (((hFf.setNew (p := ⟨w.heap.size, 0, none⟩) (Nat.le_refl _) (.int .i64 key)).setNew (p := ⟨w.heap.size, 1, none⟩) (Nat.le_refl _) (.int .i64 pages)).setNew (p := ⟨w.heap.size, 2, none⟩) (Nat.le_refl _) (.slice A8 (k + 1) c8))
              clear bkf bZf ownf hcf hFf
              go_wp2_with fail
              refine bodyPost_ret (v := .agg #[.int .i64 key, .int .i64 pages, (.slice A8 (k + 1) c8)]) (by simp [results, Tryz.results99, go_sem, t0, t1, t2]) rfl ?_
              exact ⟨key, pages, us ++ [kk], A8, c8, by rw [hl8H.out], by omega, by rw [hl8H.out]; omega, by rw [hl8H.out]; exact ownH.out.mono (by omega) (by simp only [size_setCell]; exact Nat.le_refl _), hcH.out.le (by omega), hFH.out⟩
          · have bkf := bkt
            have bZf := bZt
            have ownf := ownt
            have hcf := hct
            have hFf := hFt
            clear bkt bZt ownt hct hFt
            have v0 := bkf.cell 0
            have v1 := bkf.cell 1
            have v2 := bkf.cell 2
            have t0 := bZf.cell 0
            have t1 := bZf.cell 1
            have t2 := bZf.cell 2
            have f0 := bZf.frozen 0
            have f1 := bZf.frozen 1
            have f2 := bZf.frozen 2
            have ql := bZf.lt
            have ql2 := bkf.lt
            simp at v0 v1 v2 t0 t1 t2
            have ownH := Lib.hid (((ownf.setCell (p := ⟨w.heap.size, 0, none⟩) (.inl (by dsimp only; omega)) (.int .i64 key)).setCell (p := ⟨w.heap.size, 1, none⟩) (.inl (by dsimp only; omega)) (.int .i64 pages)).setCell (p := ⟨w.heap.size, 2, none⟩) (.inl (by dsimp only; omega)) (.slice A k c))
            have hcH := Lib.hid (((hcf.setCell (p := ⟨w.heap.size, 0, none⟩) (by dsimp only; omega) (.int .i64 key)).setCell (p := ⟨w.heap.size, 1, none⟩) (by dsimp only; omega) (.int .i64 pages)).setCell (p := ⟨w.heap.size, 2, none⟩) (by dsimp only; omega) (.slice A k c))
            have hFH := Lib.hid (((hFf.setNew (p := ⟨w.heap.size, 0, none⟩) (Nat.le_refl _) (.int .i64 key)).setNew (p := ⟨w.heap.size, 1, none⟩) (Nat.le_refl _) (.int .i64 pages)).setNew (p := ⟨w.heap.size, 2, none⟩) (Nat.le_refl _) (.slice A k c))
            clear bkf bZf ownf hcf hFf
            go_wp2_with fail
            refine bodyPost_ret (v := .agg #[.int .i64 key, .int .i64 pages, .slice A k c]) (by simp [results, Tryz.results99, go_sem, t0, t1, t2]) rfl ?_
            have husx := hus.out
            exact ⟨key, pages, us, A, c, by rw [husx], by omega, by omega, by rw [husx]; exact ownH.out.mono (by omega) (by simp only [size_setCell]; exact Nat.le_refl _), hcH.out.le (by omega), hFH.out⟩
end Go.Proofs.YtjhbffndiaggmaaGreatDoor

/-
  Contracts of the drawn key books' draws: keyPageOf, and the choices for pages. The conditions are bounds on how often the cursor has been asked.
-/
namespace Go.Proofs.YtjhbffndiaggmaaGreatDoor
open Go.RowKit Go.ChangeShapes Go.WideShapes
set_option linter.unusedVariables false
set_option linter.unusedSimpArgs false

theorem l1Most_w (a b : Int) (w : World) :
    Calls Tryz.prog 153 #[.int .i64 a, .int .i64 b] w fun e w' => ∃ x : Int, e = .returned (.int .i64 x) ∧ (x = a ∨ x = b) ∧ w = w' := by
  by_cases h : b < a
  · go_enter Tryz.func153, Tryz.ntmps153
    go_wp2_with fail
    go_ret
    exact ⟨a, rfl, .inl rfl, rfl⟩
  · go_enter Tryz.func153, Tryz.ntmps153
    go_wp2_with fail
    go_ret
    exact ⟨b, rfl, .inr rfl, rfl⟩
set_option maxRecDepth 100000 in
set_option maxHeartbeats 4000000 in
theorem keyPageOf_any (g N : Nat) (key pages : Int) (A : Option Addr) (k c : Nat) (w : World) (hc : Cur w g N) (hN : N ≤ 4611686018427380000) (hp : 0 ≤ pages ∧ pages ≤ 61) :
    Calls Tryz.prog 107 #[.pointer (some ⟨g, 0, none⟩), .agg #[.int .i64 key, .int .i64 pages, .slice A k c]] w fun e w' => ∃ x : Int, e = .returned (.int .i64 x) ∧ Cur w' g (N + 6) ∧ Fr g (g + 1) w w' := by
  have hgl := hc.lt
  have b0 := Bk.new w 26 #[.int .i64 key, .int .i64 pages, .slice A k c]
  have hc0 := hc.alloc (.cells #[.int .i64 key, .int .i64 pages, .slice A k c] 26)
  have hF0 := (Fr.refl g (g + 1) w).alloc (.cells #[.int .i64 key, .int .i64 pages, .slice A k c] 26)
  go_enter Tryz.func107, Tryz.ntmps107
  have y1 := b0.cell 1
  simp at y1
  go_wp2_with fail
  (with_reducible refine (l1Most_w 1 pages _).mono ?_)
  rintro e w' ⟨m, rfl, hm, rfl⟩
  have hmb : 0 ≤ m ∧ m ≤ 61 := by omega
  clear hm
  go_wp2_with fail
  (with_reducible refine (pick_any g N 16 _ hc0 (by omega) (by omega)).mono ?_)
  rintro e w1 ⟨x, rfl, hx, hc1, hf1, hs1⟩
  have hF1 := hF0.trans hf1
  have hxb : 0 ≤ x ∧ x ≤ 15 := by omega
  clear hf1 hs1 hF0 hc0 hx b0 y1
  obtain ⟨d, hd⟩ : ∃ d, d = x.tdiv 15 := ⟨_, rfl⟩
  have hdb : 0 ≤ d ∧ d ≤ 1 := by rw [hd, Int.tdiv_eq_ediv_of_nonneg hxb.1]; omega
  have hd1 : IntKind.i64.wrap (x.tdiv 15) = d := by rw [← hd]; exact IntWalk.i64_in _ (by omega)
  have hd3 : x.tdiv 15 = d := hd.symm
  clear hd
  have hd2 : IntKind.i64.wrap (m + d) = m + d := IntWalk.i64_in _ (by omega)
  go_wp2_with fail
  (with_reducible refine (pick_any g (N + 2) (m + d) _ hc1 (by omega) (by omega)).mono ?_)
  rintro e w2 ⟨y, rfl, hy, hc2, hf2, hs2⟩
  have hF2 := hF1.trans hf2
  have hyb : 0 ≤ y ∧ y ≤ 62 := by omega
  clear hf2 hs2 hF1 hc1 hy hd2
  go_wp2_with fail
  (with_reducible refine (pick_any g (N + 4) 24 _ hc2 (by omega) (by omega)).mono ?_)
  rintro e w3 ⟨z, rfl, hz, hc3, hf3, hs3⟩
  have hF3 := hF2.trans hf3
  have hzb : 0 ≤ z ∧ z ≤ 23 := by omega
  clear hf3 hs3 hF2 hc2 hz
  obtain ⟨f, hf⟩ : ∃ f, f = z.tdiv 23 := ⟨_, rfl⟩
  have hfb : 0 ≤ f ∧ f ≤ 1 := by rw [hf, Int.tdiv_eq_ediv_of_nonneg hzb.1]; omega
  have hf1 : IntKind.i64.wrap (z.tdiv 23) = f := by rw [← hf]; exact IntWalk.i64_in _ (by omega)
  have hf3 : z.tdiv 23 = f := hf.symm
  clear hf
  have hf2 : IntKind.i64.wrap (y - f) = y - f := IntWalk.i64_in _ (by omega)
  go_wp2_with fail
  go_ret
  exact ⟨_, rfl, hc3, hF3⟩
set_option maxRecDepth 100000 in
theorem big_v (A1 A2 : Option Addr) (n1 c1 n2 c2 : Nat) (w : World) (h1 : n1 ≤ 9223372036854775807) (h2 : n2 ≤ 9223372036854775807) :
    Calls Tryz.prog 6 #[.slice A1 n1 c1, .slice A2 n2 c2] w fun e w' => (e = .returned (.bool false) ∧ n1 + n2 ≤ 1048576 ∧ w = w') ∨ (e = .returned (.bool true) ∧ w = w') := by
  by_cases h : (1048576 : Int) < (n1 : Int)
  · go_enter Tryz.func6, Tryz.ntmps6
    go_wp2_with fail
    go_ret
    exact .inr ⟨rfl, rfl⟩
  · have hw : IntKind.i64.wrap (1048576 - (n1 : Int)) = 1048576 - (n1 : Int) := IntWalk.i64_in _ (by omega)
    by_cases h2 : 1048576 - (n1 : Int) < (n2 : Int)
    · go_enter Tryz.func6, Tryz.ntmps6
      go_wp2_with fail
      go_ret
      exact .inr ⟨rfl, rfl⟩
    · go_enter Tryz.func6, Tryz.ntmps6
      go_wp2_with fail
      go_ret
      exact .inl ⟨rfl, by omega, rfl⟩
section
variable {w w' : World} {g : Nat}
theorem CodeAt.up {A : Option Addr} {n g' : Nat} (h : CodeAt w g A n) (hg : g ≤ g') : CodeAt w g' A n := fun hp => by
  obtain ⟨b, off, e, hb, hc⟩ := h hp
  exact ⟨b, off, e, by omega, hc⟩
theorem CodeAt.st {w w' : World} {A : Option Addr} {n : Nat} (h : CodeAt w w.heap.size A n) (hb : Below w.heap.size w w') : CodeAt w' w'.heap.size A n := (h.keep fun b o _ h2 => World.cell?_of_block (w := w) (hb.block b h2)).up hb.size
theorem CodeAt.alloc {A : Option Addr} {n : Nat} (h : CodeAt w g A n) (o : Obj) : CodeAt (w.alloc o) g A n := h.keep fun b o' _ h2 => World.cell?_of_block (w := w) (Below.heap_alloc w o b h2)
theorem Cur.fresh {A : Option Addr} {n c : Nat} (h : CodeAt w w.heap.size A n) (hn : n ≤ 9223372036854775807) (hc : n ≤ c) : Cur (w.alloc (.cells #[.slice A n c, .int .i64 0, .int .u64 0] 102)) w.heap.size 0 :=
  ⟨A, n, c, 0, 0, Bk.new w _ _, ⟨Int.le_refl _, Int.le_refl _⟩, hn, hc, h.alloc _⟩
end
set_option maxRecDepth 100000 in
set_option maxHeartbeats 4000000 in
theorem drawKeyPage_any (A0 : Option Addr) (n c0 : Nat) (w : World) (hcd : CodeAt w w.heap.size A0 n) (hn : n ≤ 9223372036854775807) (hnc : n ≤ c0) :
    Calls Tryz.prog 97 #[.slice A0 n c0] w fun e w' => ∃ (key pages : Int) (us : List Int) (A : Option Addr) (c : Nat) (pg : Int), e = .returned (.tuple #[.agg #[.int .i64 key, .int .i64 pages, .slice A us.length c], .int .i64 pg]) ∧ us.length ≤ 100 ∧
      Own w' w.heap.size w'.heap.size (.slice A us.length c) us ∧ Below w.heap.size w w' := by
  obtain ⟨ZB, hZB⟩ : ∃ ZB, ZB = Obj.cells #[.int .i64 0, .int .i64 0, .slice none 0 0] 26 (0, 0) := ⟨_, rfl⟩
  have bZ := (show Bk (w.alloc ZB) w.heap.size 26 #[.int .i64 0, .int .i64 0, .slice none 0 0] by rw [hZB]; exact Bk.new w _ _).alloc (.cells #[.slice A0 n c0, .int .i64 0, .int .u64 0] 102)
  have hc0 := Cur.fresh ((hcd.up (Nat.le_succ _)).alloc ZB |>.up (by simp)) hn hnc
  rw [show (w.alloc ZB).heap.size = w.heap.size + 1 by simp] at hc0
  have hB0 := ((Below.refl w.heap.size w).alloc (Nat.le_refl _) ZB).alloc (by simp) (.cells #[.slice A0 n c0, .int .i64 0, .int .u64 0] 102)
  have hs0 := Lib.hid (show ((w.alloc ZB).alloc (.cells #[.slice A0 n c0, .int .i64 0, .int .u64 0] 102)).heap.size = w.heap.size + 2 by simp)
  go_enter Tryz.func97, Tryz.ntmps97
  go_wp2_with fail
  rw [← hZB]
  (with_reducible refine (keyBook_any (w.heap.size + 1) 0 _ hc0 (by omega)).mono ?_)
  rintro e w1 ⟨key, pages, us, A, c, rfl, hpg, hus, hown, hc1, hf1⟩
  have hB1 := hB0.trans (hf1.below (B := w.heap.size) (by omega) (by have := hs0.out; omega))
  have hl1 : w.heap.size + 2 ≤ w1.heap.size := by have := hf1.size; have := hs0.out; omega
  have bZ1 := bZ.fr hf1 (by omega)
  have hown1 : Own w1 (w.heap.size + 2) w1.heap.size (.slice A us.length c) us := by rw [← hs0.out]; exact hown
  have bk2 := Bk.new w1 26 #[.int .i64 key, .int .i64 pages, .slice A us.length c]
  have bZ2 := bZ1.alloc (.cells #[.int .i64 key, .int .i64 pages, .slice A us.length c] 26)
  have hc2 := hc1.alloc (.cells #[.int .i64 key, .int .i64 pages, .slice A us.length c] 26)
  have hB2 := hB1.alloc (by omega) (.cells #[.int .i64 key, .int .i64 pages, .slice A us.length c] 26)
  have hown2 := hown1.alloc (.cells #[.int .i64 key, .int .i64 pages, .slice A us.length c] 26)
  clear bZ hc0 hB0 hf1 hB1 bZ1 hown hown1 hc1
  have y0 := bk2.cell 0
  have y1 := bk2.cell 1
  have y2 := bk2.cell 2
  have t0 := bZ2.cell 0
  have t1 := bZ2.cell 1
  have t2 := bZ2.cell 2
  have f0 := bZ2.frozen 0
  have f1 := bZ2.frozen 1
  have f2 := bZ2.frozen 2
  simp at y0 y1 y2 t0 t1 t2
  go_wp2_with fail
  have bk2x := bk2.drew
  have bZ2x := bZ2.drew
  have hc2x := hc2.drew
  have hB2x := hB2.drew
  have hown2x := hown2.drew
  have hs2x := Lib.hid (show (w1.alloc (.cells #[.int .i64 key, .int .i64 pages, .slice A us.length c] 26)).drew.heap.size = w1.heap.size + 1 by simp)
  clear bk2 bZ2 hc2 hB2 hown2
  go_region_law (first
    | (go_simp; (go_at_call 107; ((with_reducible refine (keyPageOf_any (w.heap.size + 1) 300 key pages A us.length c _ hc2x (by omega) hpg).mono ?_); rintro e w3 ⟨pg, rfl, hc3, hf3⟩); (have hl3 : w1.heap.size + 1 ≤ w3.heap.size := by have := hf3.size; have := hs2x.out; omega); (have bk3 := bk2x.fr hf3 (by omega)); (have bZ3 := bZ2x.fr hf3 (by omega)); (have z0 := bk3.cell 0); (have z1 := bk3.cell 1); (have z2 := bk3.cell 2); (have u0 := bZ3.cell 0); (have u1 := bZ3.cell 1); (have u2 := bZ3.cell 2); (have g0 := bZ3.frozen 0); (have g1 := bZ3.frozen 1); (have g2 := bZ3.frozen 2); (simp at z0 z1 z2 u0 u1 u2))))
  all_goals
    have hB3 := hB2x.trans (hf3.below (B := w.heap.size) (by omega) (by have := hs2x.out; omega))
    have hown3 := hown2x.fr hf3 (.inr (by omega))
    have hwH := Lib.hid (((hB3.setCell (p := ⟨w.heap.size, 0, none⟩) (Nat.le_refl _) (.int .i64 key)).setCell (p := ⟨w.heap.size, 1, none⟩) (Nat.le_refl _) (.int .i64 pages)).setCell (p := ⟨w.heap.size, 2, none⟩) (Nat.le_refl _) (.slice A us.length c))
    have hoH := Lib.hid (((hown3.setCell (p := ⟨w.heap.size, 0, none⟩) (.inl (by dsimp only; omega)) (.int .i64 key)).setCell (p := ⟨w.heap.size, 1, none⟩) (.inl (by dsimp only; omega)) (.int .i64 pages)).setCell (p := ⟨w.heap.size, 2, none⟩) (.inl (by dsimp only; omega)) (.slice A us.length c))
    have hzl := bZ3.lt
    clear hB3 hown3 hf3 hc3 bk3 bZ3 bk2x bZ2x hc2x hB2x hown2x
    go_wp2_with fail
    refine bodyPost_ret (v := .tuple #[.agg #[.int .i64 key, .int .i64 pages, .slice A us.length c], .int .i64 pg]) (by simp [results, Tryz.results97, go_sem, u0, u1, u2]) rfl ?_
    exact ⟨key, pages, us, A, c, pg, rfl, hus, hoH.out.mono (by omega) (by simp only [size_setCell]; omega), hwH.out⟩
end Go.Proofs.YtjhbffndiaggmaaGreatDoor
