/-
  Contracts of the drawn key books: keyBook and keyPageOf. The conditions are bounds on how often the cursor has been asked.
-/
import Derived.Test.YteajjbfecpffeaaCur
import Derived.Test.YteajjbfecpffeaaIntLow
import Derived.Test.YteajjbfecpffeaaStepI
import Derived.Deep.RegionLaw
namespace Go.Proofs.Yteajjbfecpffeaa
open Go.RowKit Go.ChangeShapes Go.WideShapes
set_option linter.unusedVariables false
set_option linter.unusedSimpArgs false

section
variable {w w1 w2 : World} {lo hi B : Nat}
theorem Fr.then_below (h : Fr lo hi w w1) (hb : Below B w1 w2) (hB : w.heap.size ≤ B) : Fr lo hi w w2 :=
  ⟨hb.os.trans h.os, hb.tape.trans h.tape, hb.output.trans h.output, Nat.le_trans h.size hb.size, fun k hk hd => (hb.block k (by omega)).trans (h.block k hk hd)⟩
theorem Fr.setNew (h : Fr lo hi w w1) {p : Addr} (hp : w.heap.size ≤ p.block) (u : Value) : Fr lo hi w (w1.setCell p u) :=
  h.then_below ((Below.refl _ _).setCell hp u) (Nat.le_refl _)
theorem Fr.below_of (h : Fr lo hi w w1) (hB : B ≤ lo) (hs : B ≤ w.heap.size) : Below B w w1 := h.below hB hs
end
set_option maxRecDepth 100000 in
set_option maxHeartbeats 8000000 in
theorem keyBook_any (g N : Nat) (w : World) (hc : Cur w g N) (hN : N ≤ 4611686018427380000) :
    Calls Try.prog 69 #[.pointer (some ⟨g, 0, none⟩)] w fun e w' => ∃ (key pages : Int) (us : List Int) (A : Option Addr) (c : Nat), e = .returned (.agg #[.int .i64 key, .int .i64 pages, .slice A us.length c]) ∧ (0 ≤ pages ∧ pages ≤ 61) ∧ us.length ≤ 100 ∧
      Own w' w.heap.size w'.heap.size (.slice A us.length c) us ∧ Cur w' g (N + 300) ∧ Fr g (g + 1) w w' := by
  have hgl := hc.lt
  obtain ⟨ZB, hZB⟩ : ∃ ZB, ZB = Obj.cells #[.int .i64 0, .int .i64 0, .slice none 0 0] 52 (0, 0) := ⟨_, rfl⟩
  have bZ0 : Bk (w.alloc ZB) w.heap.size 52 #[.int .i64 0, .int .i64 0, .slice none 0 0] := by rw [hZB]; exact Bk.new w _ _
  have hF0 := (Fr.refl g (g + 1) w).alloc ZB
  have hc0 := hc.alloc ZB
  have hs0 := Lib.hid (show (w.alloc ZB).heap.size = w.heap.size + 1 by simp)
  go_enter Try.func69, Try.ntmps69
  go_wp2_with fail
  rw [← hZB]
  (with_reducible refine (pick_any g N 60000 _ hc0 (by omega) (by omega)).mono ?_)
  rintro e w1 ⟨x, rfl, hx, hc1, hf1, hs1⟩
  have hs1H := Lib.hid (hs1.trans hs0.out)
  have hl1 : w.heap.size + 1 ≤ w1.heap.size := by have := hs1H.out; omega
  have hF1 := hF0.trans hf1
  have bZ1 := bZ0.fr hf1 (by omega)
  obtain ⟨o1, ho1⟩ : ∃ o, o = Obj.cells #[.int .i64 0, .int .i64 77, .int .i64 x, .int .i64 1000000000] 3 (0, 0) := ⟨_, rfl⟩
  have hr1 : Rd (w1.alloc o1) w1.heap.size (w1.heap.size + 1) (some ⟨w1.heap.size, 0, none⟩) [0, 77, x, 1000000000] := by rw [ho1]; exact Rd.one w1 _ _ [0, 77, x, 1000000000] rfl
  have hc1a := hc1.alloc o1
  have hF1a := hF1.alloc o1
  have bZ1a := bZ1.alloc o1
  have hs1a := Lib.hid (show (w1.alloc o1).heap.size = w1.heap.size + 1 by simp)
  clear hf1 hs1 hc1 hF1 bZ1 hc0 hF0 bZ0
  go_wp2_with fail
  rw [← ho1]
  (with_reducible refine (among_any g (N + 2) [0, 77, x, 1000000000] _ 4 _ _ hc1a (by omega) hr1 rfl (by simp) (by simp) (.inr (by omega))).mono ?_)
  rintro e w2 ⟨key, rfl, hkey, hc2, hf2, hs2⟩
  have hs2H := Lib.hid (hs2.trans hs1a.out)
  have hl2 : w1.heap.size + 1 ≤ w2.heap.size := by have := hs2H.out; omega
  have hF2 := hF1a.trans hf2
  have bZ2 := bZ1a.fr hf2 (by omega)
  obtain ⟨o2, ho2⟩ : ∃ o, o = Obj.cells #[.int .i64 1, .int .i64 2, .int .i64 5, .int .i64 10, .int .i64 60] 3 (0, 0) := ⟨_, rfl⟩
  have hr2 : Rd (w2.alloc o2) w2.heap.size (w2.heap.size + 1) (some ⟨w2.heap.size, 0, none⟩) [1, 2, 5, 10, 60] := by rw [ho2]; exact Rd.one w2 _ _ [1, 2, 5, 10, 60] rfl
  have hc2a := hc2.alloc o2
  have hF2a := hF2.alloc o2
  have bZ2a := bZ2.alloc o2
  have hs2a := Lib.hid (show (w2.alloc o2).heap.size = w2.heap.size + 1 by simp)
  clear hf2 hs2 hc2 hF2 bZ2 hc1a hF1a bZ1a hr1 ho1 hkey
  go_wp2_with fail
  rw [← ho2]
  (with_reducible refine (among_any g (N + 4) [1, 2, 5, 10, 60] _ 5 _ _ hc2a (by omega) hr2 rfl (by simp) (by simp) (.inr (by omega))).mono ?_)
  rintro e w3 ⟨pages, rfl, hpages, hc3, hf3, hs3⟩
  have hpg : 1 ≤ pages ∧ pages ≤ 60 := by simp at hpages; omega
  have hs3H := Lib.hid (hs3.trans hs2a.out)
  have hl3 : w2.heap.size + 1 ≤ w3.heap.size := by have := hs3H.out; omega
  have hF3 := hF2a.trans hf3
  have bZ3 := bZ2a.fr hf3 (by omega)
  obtain ⟨o3, ho3⟩ : ∃ o, o = Obj.cells #[.int .i64 key, .int .i64 pages, .slice none 0 0] 52 (0, 0) := ⟨_, rfl⟩
  obtain ⟨o4, ho4⟩ : ∃ o, o = Obj.cells #[.int .i64 2, .int .i64 3, .int .i64 3, .int .i64 1] 3 (0, 0) := ⟨_, rfl⟩
  have hr4 : Rd ((w3.alloc o3).alloc o4) (w3.heap.size + 1) (w3.heap.size + 2) (some ⟨w3.heap.size + 1, 0, none⟩) [2, 3, 3, 1] := by
    have h := Rd.one (w3.alloc o3) #[.int .i64 2, .int .i64 3, .int .i64 3, .int .i64 1] 3 [2, 3, 3, 1] rfl
    rw [ho4]
    simpa using h
  have bk4 : Bk ((w3.alloc o3).alloc o4) w3.heap.size 52 #[.int .i64 key, .int .i64 pages, .slice none 0 0] := by rw [ho3]; exact (Bk.new w3 _ _).alloc _
  have hc4 := (hc3.alloc o3).alloc o4
  have hF4 := (hF3.alloc o3).alloc o4
  have bZ4 := (bZ3.alloc o3).alloc o4
  have hs4 := Lib.hid (show ((w3.alloc o3).alloc o4).heap.size = w3.heap.size + 2 by simp)
  clear hf3 hs3 hc3 hF3 bZ3 hc2a hF2a bZ2a hr2 ho2 hpages
  go_wp2_with fail
  rw [← ho3, ← ho4]
  (with_reducible refine (among_any g (N + 6) [2, 3, 3, 1] _ 4 _ _ hc4 (by omega) hr4 rfl (by simp) (by simp) (.inr (by omega))).mono ?_)
  rintro e w5 ⟨few, rfl, hfew, hc5, hf5, hs5⟩
  have hfw : few ≤ 3 := by simp at hfew; omega
  have hs5H := Lib.hid (hs5.trans hs4.out)
  have hl5 : w3.heap.size + 2 ≤ w5.heap.size := by have := hs5H.out; omega
  have hF5 := hF4.trans hf5
  have bZ5 := bZ4.fr hf5 (by omega)
  have bk5 := bk4.fr hf5 (by omega)
  clear hf5 hs5 hc4 hF4 bZ4 bk4 hr4 ho4 ho3 hfew
  go_wp2_with fail
  go_loopw [5] (fun i wr => ∃ (n : Nat) (us : List Int) (A : Option Addr) (k c : Nat), (n : Int) ≤ pages ∧ i = .int .i64 n ∧ us.length = k ∧ k ≤ n ∧ Bk wr w3.heap.size 52 #[.int .i64 key, .int .i64 pages, .slice A k c] ∧ Own wr w5.heap.size wr.heap.size (.slice A k c) us ∧ Cur wr g (N + 8 + 2 * n) ∧ Fr g (g + 1) w wr ∧ Bk wr w.heap.size 52 #[.int .i64 0, .int .i64 0, .slice none 0 0] ∧ w5.heap.size ≤ wr.heap.size) (fun i _ => 61 - (intOf i).toNat)
  case atStart => exact ⟨0, [], none, 0, 0, by omega, rfl, rfl, Nat.le_refl _, bk5, Own.nil, hc5, hF5, bZ5, Nat.le_refl _⟩
  case round =>
    clear bk5 hc5 hF5 bZ5
    obtain ⟨n, us, A, k, c, hn, rfl, huk, hkn, bkr, ownr, hcr, hFr, bZr, hsr⟩ := hrel
    have hukH := Lib.hid huk
    clear huk
    have y1 := bkr.cell 1
    have y2 := bkr.cell 2
    have hgk := bkr.lt
    simp at y1 y2
    by_cases hlt : (n : Int) < pages
    · go_wp2_with fail
      (with_reducible refine (one_any g (N + 8 + 2 * n) few _ hcr (by omega) (by omega)).mono ?_)
      rintro e w6 ⟨v, rfl, hc6, hf6, hs6⟩
      have hs6H := Lib.hid hs6
      have hl6 : wr.heap.size ≤ w6.heap.size := by omega
      have hF6 := hFr.trans hf6
      have bk6 := bkr.fr hf6 (by omega)
      have bZ6 := bZr.fr hf6 (by omega)
      have own6 := (ownr.fr hf6 (.inr (by omega))).mono (Nat.le_refl _) hl6
      clear hf6 hs6 y1 y2 bkr ownr hcr hFr bZr hgk
      cases v with
      | false =>
        have bk6H := Lib.hid bk6
        have own6H := Lib.hid own6
        have hF6H := Lib.hid hF6
        have bZ6H := Lib.hid bZ6
        have hc6H := Lib.hid hc6
        clear bk6 own6 hF6 bZ6 hc6
        go_wp2_with fail
        go_roundw
        case rel => exact ⟨n + 1, us, A, k, c, by omega, by go_num, hukH.out, by omega, bk6H.out, own6H.out, hc6H.out.le (by omega), hF6H.out, bZ6H.out, by omega⟩
        case measure => simp [intOf]; omega
      | true =>
        have y2 := bk6.cell 2
        have f2 := bk6.frozen 2
        have hgk := bk6.lt
        simp at y2
        have own6H := Lib.hid own6
        have bk6H := Lib.hid bk6
        have hF6H := Lib.hid hF6
        have bZ6H := Lib.hid bZ6
        have hc6H := Lib.hid hc6
        clear bk6 own6 hF6 bZ6 hc6
        go_wp2_with (at_builtin; refine wp_append_ints rfl (.tmp 28) (.tmp 30) (v := .slice A k c) rfl rfl (own6H.out.alloc _) (ys := [(n : Int)]) rfl ((Rd.one w6 _ _ _ rfl).mono (Nat.zero_le _) (by simp)) (by have := hukH.out; simp; omega) (by simp; omega) ?_; intro v8 w8 ho8 hg8 hb8 hat8; (obtain ⟨A8, c8, rfl, -, -⟩ := ho8.rd); (have hl8 : (us ++ [(n : Int)]).length = k + 1 := by have h9 := hukH.out; rw [List.length_append, h9]; rfl); rw [hl8] at ho8 ⊢; (have bk8 := (bk6H.out.alloc (.cells #[.int .i64 (n : Int)] 3)).below hb8 (by omega)); (have y8 := bk8.cell 2); (have f8 := bk8.frozen 2); (simp at y8))
        have hlw8 : w6.heap.size ≤ w8.heap.size := by have := hb8.size; simp at this; omega
        have hbk9 := Lib.hid (show Bk (w8.setCell ⟨w3.heap.size, 2, none⟩ (.slice A8 (k + 1) c8)) w3.heap.size 52 #[.int .i64 key, .int .i64 pages, .slice A8 (k + 1) c8] by simpa using bk8.set_ 2 (.slice A8 (k + 1) c8))
        have hF9 := ((hF6H.out.alloc (.cells #[.int .i64 (n : Int)] 3)).then_below hb8 (by omega)).setNew (p := ⟨w3.heap.size, 2, none⟩) (by dsimp only; omega) (.slice A8 (k + 1) c8)
        have hc9 := ((hc6H.out.alloc (.cells #[.int .i64 (n : Int)] 3)).below hb8 (by omega)).setCell (p := ⟨w3.heap.size, 2, none⟩) (by dsimp only; omega) (.slice A8 (k + 1) c8)
        have hZ9 := ((bZ6H.out.alloc (.cells #[.int .i64 (n : Int)] 3)).below hb8 (by omega)).far (p := ⟨w3.heap.size, 2, none⟩) (by dsimp only; omega) (.slice A8 (k + 1) c8)
        have ho9 := ho8.setCell (p := ⟨w3.heap.size, 2, none⟩) (.inl (by dsimp only; omega)) (.slice A8 (k + 1) c8)
        refine ⟨⟨n + 1, us ++ [(n : Int)], A8, k + 1, c8, by omega, by go_num, hl8, by omega, hbk9.out, ho9.mono (Nat.le_refl _) (by rw [size_setCell]; exact Nat.le_refl _), hc9.le (by omega), hF9, hZ9, by rw [size_setCell]; omega⟩, ?_⟩
        simp [intOf]; omega
    · have hle : n ≤ 60 := by omega
      obtain ⟨wl, rfl⟩ : ∃ wl, wl = wr := ⟨_, rfl⟩
      go_wp2_with fail
      (with_reducible refine (pick_any g (N + 8 + 2 * n) 30 _ hcr (by omega) (by omega)).mono ?_)
      rintro e wt ⟨x, rfl, hx, hct0, hft, hst⟩
      have hstH := Lib.hid hst
      have hlt1 : wl.heap.size ≤ wt.heap.size := by omega
      have hFt := hFr.trans hft
      have bkt := bkr.fr hft (by omega)
      have bZt := bZr.fr hft (by omega)
      have ownt := (ownr.fr hft (.inr (by omega))).mono (Nat.le_refl _) hlt1
      have hct := hct0.le (show N + 8 + 2 * n + 2 ≤ N + 140 by omega)
      have hus : Hid (us.length = k) := hukH
      have hk100 : k ≤ 60 := by omega
      clear hft hst y1 y2 bkr ownr hcr hFr bZr hgk hct0
      by_cases h0 : x = 0
      · subst h0
        obtain ⟨ox, hox⟩ : ∃ o, o = Obj.cells #[.int .i64 (-1), .int .i64 1000000001] 3 (0, 0) := ⟨_, rfl⟩
        have hrx : Rd (wt.alloc ox) wt.heap.size (wt.heap.size + 1) (some ⟨wt.heap.size, 0, none⟩) [-1, 1000000001] := by rw [hox]; exact Rd.one wt _ _ [-1, 1000000001] rfl
        have hcx := hct.alloc ox
        have hFx := hFt.alloc ox
        have bZx := bZt.alloc ox
        have bkx := bkt.alloc ox
        have ownx := ownt.alloc ox
        have hsx := Lib.hid (show (wt.alloc ox).heap.size = wt.heap.size + 1 by simp)
        clear hct hFt bZt bkt ownt
        go_wp2_with fail
        rw [← hox]
        (with_reducible refine (among_any g (N + 140) [-1, 1000000001] _ 2 _ _ hcx (by omega) hrx rfl (by simp) (by simp) (.inr (by omega))).mono ?_)
        rintro e w12 ⟨kk, rfl, hkk, hc12, hf12, hs12⟩
        have hs12H := Lib.hid (hs12.trans hsx.out)
        have hl12 : wt.heap.size + 1 ≤ w12.heap.size := by have := hs12H.out; omega
        have hF12 := hFx.trans hf12
        have bZ12 := bZx.fr hf12 (by omega)
        have bk12 := bkx.fr hf12 (by omega)
        have own12 := ownx.fr hf12 (.inr (by omega))
        have xf := bk12.frozen 0
        have xl := bk12.lt
        have xe0 := bk12.cell 0
        have xe1 := bk12.cell 1
        have xe2 := bk12.cell 2
        have xz0 := bZ12.frozen 0
        have xz1 := bZ12.frozen 1
        have xz2 := bZ12.frozen 2
        have xt0 := bZ12.cell 0
        have xt1 := bZ12.cell 1
        have xt2 := bZ12.cell 2
        simp at xe0 xe1 xe2 xt0 xt1 xt2
        skip
        obtain ⟨wf, hwf⟩ : ∃ wf, wf = w12.setCell ⟨w3.heap.size, 0, none⟩ (.int .i64 kk) := ⟨_, rfl⟩
        have bkf : Bk wf w3.heap.size 52 #[.int .i64 kk, .int .i64 pages, .slice A k c] := by rw [hwf]; simpa using bk12.set_ 0 (.int .i64 kk)
        have bZf : Bk wf w.heap.size 52 #[.int .i64 0, .int .i64 0, .slice none 0 0] := by rw [hwf]; exact bZ12.far (by dsimp only; omega) _
        have hlf : w12.heap.size ≤ wf.heap.size := by rw [hwf, size_setCell]; exact Nat.le_refl _
        have ownf : Own wf w5.heap.size wf.heap.size (.slice A k c) us := by rw [hwf]; exact (own12.setCell (.inl (by dsimp only; omega)) _).mono (Nat.le_refl _) (by rw [size_setCell]; omega)
        have hcf : Cur wf g (N + 142) := by rw [hwf]; exact hc12.setCell (by dsimp only; omega) _
        have hFf : Fr g (g + 1) w wf := by rw [hwf]; exact hF12.setNew (by dsimp only; omega) _
        clear hf12 hs12 hc12 hF12 bZ12 bk12 own12 hcx hFx bZx bkx ownx hrx hox hkk
        have v0 := bkf.cell 0
        have v1 := bkf.cell 1
        have v2 := bkf.cell 2
        have t0 := bZf.cell 0
        have t1 := bZf.cell 1
        have t2 := bZf.cell 2
        have f0 := bZf.frozen 0
        have f1 := bZf.frozen 1
        have f2 := bZf.frozen 2
        have ql := bZf.lt
        have ql2 := bkf.lt
        simp at v0 v1 v2 t0 t1 t2
        have ownH := Lib.hid (((ownf.setCell (p := ⟨w.heap.size, 0, none⟩) (.inl (by dsimp only; omega)) (.int .i64 kk)).setCell (p := ⟨w.heap.size, 1, none⟩) (.inl (by dsimp only; omega)) (.int .i64 pages)).setCell (p := ⟨w.heap.size, 2, none⟩) (.inl (by dsimp only; omega)) (.slice A k c))
        have hcH := Lib.hid (((hcf.setCell (p := ⟨w.heap.size, 0, none⟩) (by dsimp only; omega) (.int .i64 kk)).setCell (p := ⟨w.heap.size, 1, none⟩) (by dsimp only; omega) (.int .i64 pages)).setCell (p := ⟨w.heap.size, 2, none⟩) (by dsimp only; omega) (.slice A k c))
        have hFH := Lib.hid (((hFf.setNew (p := ⟨w.heap.size, 0, none⟩) (Nat.le_refl _) (.int .i64 kk)).setNew (p := ⟨w.heap.size, 1, none⟩) (Nat.le_refl _) (.int .i64 pages)).setNew (p := ⟨w.heap.size, 2, none⟩) (Nat.le_refl _) (.slice A k c))
        clear bkf bZf ownf hcf hFf
        go_wp2_with fail
        rw [← hwf]
        refine bodyPost_ret (v := .agg #[.int .i64 kk, .int .i64 pages, .slice A k c]) (by simp [results, Try.results69, go_sem, t0, t1, t2]) rfl ?_
        have husx := hus.out
        exact ⟨kk, pages, us, A, c, by rw [husx], by omega, by omega, by rw [husx]; exact ownH.out.mono (by omega) (by simp only [size_setCell]; exact Nat.le_refl _), hcH.out.le (by omega), hFH.out⟩
      · by_cases h1 : x = 1
        · subst h1
          obtain ⟨ox, hox⟩ : ∃ o, o = Obj.cells #[.int .i64 0, .int .i64 61] 3 (0, 0) := ⟨_, rfl⟩
          have hrx : Rd (wt.alloc ox) wt.heap.size (wt.heap.size + 1) (some ⟨wt.heap.size, 0, none⟩) [0, 61] := by rw [hox]; exact Rd.one wt _ _ [0, 61] rfl
          have hcx := hct.alloc ox
          have hFx := hFt.alloc ox
          have bZx := bZt.alloc ox
          have bkx := bkt.alloc ox
          have ownx := ownt.alloc ox
          have hsx := Lib.hid (show (wt.alloc ox).heap.size = wt.heap.size + 1 by simp)
          clear hct hFt bZt bkt ownt
          go_wp2_with fail
          rw [← hox]
          (with_reducible refine (among_any g (N + 140) [0, 61] _ 2 _ _ hcx (by omega) hrx rfl (by simp) (by simp) (.inr (by omega))).mono ?_)
          rintro e w12 ⟨pp, rfl, hkk, hc12, hf12, hs12⟩
          have hs12H := Lib.hid (hs12.trans hsx.out)
          have hl12 : wt.heap.size + 1 ≤ w12.heap.size := by have := hs12H.out; omega
          have hF12 := hFx.trans hf12
          have bZ12 := bZx.fr hf12 (by omega)
          have bk12 := bkx.fr hf12 (by omega)
          have own12 := ownx.fr hf12 (.inr (by omega))
          have xf := bk12.frozen 1
          have xl := bk12.lt
          have xe0 := bk12.cell 0
          have xe1 := bk12.cell 1
          have xe2 := bk12.cell 2
          have xz0 := bZ12.frozen 0
          have xz1 := bZ12.frozen 1
          have xz2 := bZ12.frozen 2
          have xt0 := bZ12.cell 0
          have xt1 := bZ12.cell 1
          have xt2 := bZ12.cell 2
          simp at xe0 xe1 xe2 xt0 xt1 xt2
          have hpp : 0 ≤ pp ∧ pp ≤ 61 := by simp at hkk; omega
          obtain ⟨wf, hwf⟩ : ∃ wf, wf = w12.setCell ⟨w3.heap.size, 1, none⟩ (.int .i64 pp) := ⟨_, rfl⟩
          have bkf : Bk wf w3.heap.size 52 #[.int .i64 key, .int .i64 pp, .slice A k c] := by rw [hwf]; simpa using bk12.set_ 1 (.int .i64 pp)
          have bZf : Bk wf w.heap.size 52 #[.int .i64 0, .int .i64 0, .slice none 0 0] := by rw [hwf]; exact bZ12.far (by dsimp only; omega) _
          have hlf : w12.heap.size ≤ wf.heap.size := by rw [hwf, size_setCell]; exact Nat.le_refl _
          have ownf : Own wf w5.heap.size wf.heap.size (.slice A k c) us := by rw [hwf]; exact (own12.setCell (.inl (by dsimp only; omega)) _).mono (Nat.le_refl _) (by rw [size_setCell]; omega)
          have hcf : Cur wf g (N + 142) := by rw [hwf]; exact hc12.setCell (by dsimp only; omega) _
          have hFf : Fr g (g + 1) w wf := by rw [hwf]; exact hF12.setNew (by dsimp only; omega) _
          clear hf12 hs12 hc12 hF12 bZ12 bk12 own12 hcx hFx bZx bkx ownx hrx hox hkk
          have v0 := bkf.cell 0
          have v1 := bkf.cell 1
          have v2 := bkf.cell 2
          have t0 := bZf.cell 0
          have t1 := bZf.cell 1
          have t2 := bZf.cell 2
          have f0 := bZf.frozen 0
          have f1 := bZf.frozen 1
          have f2 := bZf.frozen 2
          have ql := bZf.lt
          have ql2 := bkf.lt
          simp at v0 v1 v2 t0 t1 t2
          have ownH := Lib.hid (((ownf.setCell (p := ⟨w.heap.size, 0, none⟩) (.inl (by dsimp only; omega)) (.int .i64 key)).setCell (p := ⟨w.heap.size, 1, none⟩) (.inl (by dsimp only; omega)) (.int .i64 pp)).setCell (p := ⟨w.heap.size, 2, none⟩) (.inl (by dsimp only; omega)) (.slice A k c))
          have hcH := Lib.hid (((hcf.setCell (p := ⟨w.heap.size, 0, none⟩) (by dsimp only; omega) (.int .i64 key)).setCell (p := ⟨w.heap.size, 1, none⟩) (by dsimp only; omega) (.int .i64 pp)).setCell (p := ⟨w.heap.size, 2, none⟩) (by dsimp only; omega) (.slice A k c))
          have hFH := Lib.hid (((hFf.setNew (p := ⟨w.heap.size, 0, none⟩) (Nat.le_refl _) (.int .i64 key)).setNew (p := ⟨w.heap.size, 1, none⟩) (Nat.le_refl _) (.int .i64 pp)).setNew (p := ⟨w.heap.size, 2, none⟩) (Nat.le_refl _) (.slice A k c))
          clear bkf bZf ownf hcf hFf
          go_wp2_with fail
          rw [← hwf]
          refine bodyPost_ret (v := .agg #[.int .i64 key, .int .i64 pp, .slice A k c]) (by simp [results, Try.results69, go_sem, t0, t1, t2]) rfl ?_
          have husx := hus.out
          exact ⟨key, pp, us, A, c, by rw [husx], by omega, by omega, by rw [husx]; exact ownH.out.mono (by omega) (by simp only [size_setCell]; exact Nat.le_refl _), hcH.out.le (by omega), hFH.out⟩
        · by_cases h2 : x = 2
          · subst h2
            obtain ⟨PB, hPB⟩ : ∃ o, o = Obj.cells #[.int .i64 (-1), .int .i64 0, .int .i64 pages] 3 (0, 0) := ⟨_, rfl⟩
            have hrx : Rd ((wt.alloc (.cells #[.int .i64 (-1), .int .i64 0, .int .i64 pages] 3)).drew) wt.heap.size (wt.heap.size + 1) (some ⟨wt.heap.size, 0, none⟩) [-1, 0, pages] := (Rd.one wt _ _ [-1, 0, pages] rfl).drew
            have hcx := (hct.alloc (.cells #[.int .i64 (-1), .int .i64 0, .int .i64 pages] 3)).drew
            have hFx := (hFt.alloc (.cells #[.int .i64 (-1), .int .i64 0, .int .i64 pages] 3)).drew
            have bZx := (bZt.alloc (.cells #[.int .i64 (-1), .int .i64 0, .int .i64 pages] 3)).drew
            have bkx := (bkt.alloc (.cells #[.int .i64 (-1), .int .i64 0, .int .i64 pages] 3)).drew
            have ownx := (ownt.alloc (.cells #[.int .i64 (-1), .int .i64 0, .int .i64 pages] 3)).drew
            have y1 := bkt.cell 1
            have y2 := bkt.cell 2
            have hgk := bkt.lt
            simp at y1 y2
            have hct' := Lib.hid hct
            clear hct hFt bZt bkt ownt hPB PB
            go_wp2_with fail
            go_region_law (first
              | (refine step_append_ints rfl (.tmp 50) (.tmp 56) rfl (v := .slice A k c) rfl (by first | exact own12.alloc _ | exact (own12.alloc _).drew) (ys := [kk]) rfl (by first | exact (Rd.one w12 _ _ _ rfl).mono (Nat.zero_le _) (by simp) | exact ((Rd.one w12 _ _ _ rfl).drew).mono (Nat.zero_le _) (by simp)) (by have := hus.out; simp; omega) (by first | omega | (simp <;> omega)) ?_; intro v8 w8 ho8 hg8 hb8 hat8; (obtain ⟨A8, c8, rfl, -, -⟩ := ho8.rd); (have hl8 : (us ++ [kk]).length = k + 1 := by have h9 := hus.out; rw [List.length_append, h9]; rfl); rw [hl8] at ho8 ⊢;
                  (have bk8 := (bk12.alloc (.cells #[.int .i64 kk] 3)).below hb8 (by omega)); (have y8 := bk8.cell 2); (have f8 := bk8.frozen 2); (simp at y8))
              | (go_simp; (go_at_call 101; ((with_reducible refine (among_any g (N + 140) [-1, 0, pages] _ 3 _ _ hcx (by omega) hrx rfl (by simp) (by simp) (.inr (by omega))).mono ?_); rintro e w12 ⟨kk, rfl, hkk, hc12, hf12, hs12⟩); (have hl12 : wt.heap.size + 1 ≤ w12.heap.size := by have := hf12.size; simp at this; omega); (have hs12H := Lib.hid hs12); clear hs12; (have bk12 := bkx.fr hf12 (by omega)); (have own12 := ownx.fr hf12 (.inr (by omega))); (have xe2 := bk12.cell 2); (have xl12 := bk12.lt); (simp at xe2))))
            all_goals
              have hlw8 : w12.heap.size ≤ w8.heap.size := by have := hb8.size; simp at this; omega
              have hcA := (hc12.alloc (.cells #[.int .i64 kk] 3)).below hb8 (by omega)
              have hFA := ((hFx.trans hf12).alloc (.cells #[.int .i64 kk] 3)).then_below hb8 (by omega)
              have bZA := ((bZx.fr hf12 (by omega)).alloc (.cells #[.int .i64 kk] 3)).below hb8 (by omega)
              obtain ⟨wf, hwf⟩ : ∃ wf, wf = w8.setCell ⟨w3.heap.size, 2, none⟩ (.slice A8 (k + 1) c8) := ⟨_, rfl⟩
              rw [← hwf]
              have bkf : Bk wf w3.heap.size 52 #[.int .i64 key, .int .i64 pages, (.slice A8 (k + 1) c8)] := by rw [hwf]; simpa using bk8.set_ 2 (.slice A8 (k + 1) c8)
              have bZf : Bk wf w.heap.size 52 #[.int .i64 0, .int .i64 0, .slice none 0 0] := by rw [hwf]; exact bZA.far (by dsimp only; omega) _
              have hlf : w12.heap.size ≤ wf.heap.size := by rw [hwf, size_setCell]; exact hlw8
              have ownf : Own wf w5.heap.size wf.heap.size (.slice A8 (k + 1) c8) (us ++ [kk]) := by rw [hwf]; exact (ho8.setCell (.inl (by dsimp only; omega)) _).mono (Nat.le_refl _) (by rw [size_setCell]; exact Nat.le_refl _)
              have hcf : Cur wf g (N + 142) := by rw [hwf]; exact hcA.setCell (by dsimp only; omega) _
              have hFf : Fr g (g + 1) w wf := by rw [hwf]; exact hFA.setNew (by dsimp only; omega) _
              have hl8H := Lib.hid hl8
              clear hwf hcA hFA bZA hf12 hc12 bk12 own12 hcx hFx bZx bkx ownx hrx hkk hb8 hg8 hat8 ho8 bk8 f8 y8 hl8 xe2 y1 y2 hgk hct'
              have v0 := bkf.cell 0
              have v1 := bkf.cell 1
              have v2 := bkf.cell 2
              have t0 := bZf.cell 0
              have t1 := bZf.cell 1
              have t2 := bZf.cell 2
              have f0 := bZf.frozen 0
              have f1 := bZf.frozen 1
              have f2 := bZf.frozen 2
              have ql := bZf.lt
              have ql2 := bkf.lt
              simp at v0 v1 v2 t0 t1 t2
              have ownH := Lib.hid (((ownf.setCell (p := ⟨w.heap.size, 0, none⟩) (.inl (by dsimp only; omega)) (.int .i64 key)).setCell (p := ⟨w.heap.size, 1, none⟩) (.inl (by dsimp only; omega)) (.int .i64 pages)).setCell (p := ⟨w.heap.size, 2, none⟩) (.inl (by dsimp only; omega)) (.slice A8 (k + 1) c8))
              have hcH := Lib.hid (((hcf.setCell (p := ⟨w.heap.size, 0, none⟩) (by dsimp only; omega) (.int .i64 key)).setCell (p := ⟨w.heap.size, 1, none⟩) (by dsimp only; omega) (.int .i64 pages)).setCell (p := ⟨w.heap.size, 2, none⟩) (by dsimp only; omega) (.slice A8 (k + 1) c8))
              have hFH := Lib.hid (((hFf.setNew (p := ⟨w.heap.size, 0, none⟩) (Nat.le_refl _) (.int .i64 key)).setNew (p := ⟨w.heap.size, 1, none⟩) (Nat.le_refl _) (.int .i64 pages)).setNew (p := ⟨w.heap.size, 2, none⟩) (Nat.le_refl _) (.slice A8 (k + 1) c8))
              clear bkf bZf ownf hcf hFf
              go_wp2_with fail
              refine bodyPost_ret (v := .agg #[.int .i64 key, .int .i64 pages, (.slice A8 (k + 1) c8)]) (by simp [results, Try.results69, go_sem, t0, t1, t2]) rfl ?_
              exact ⟨key, pages, us ++ [kk], A8, c8, by rw [hl8H.out], by omega, by rw [hl8H.out]; omega, by rw [hl8H.out]; exact ownH.out.mono (by omega) (by simp only [size_setCell]; exact Nat.le_refl _), hcH.out.le (by omega), hFH.out⟩
          · have bkf := bkt
            have bZf := bZt
            have ownf := ownt
            have hcf := hct
            have hFf := hFt
            clear bkt bZt ownt hct hFt
            have v0 := bkf.cell 0
            have v1 := bkf.cell 1
            have v2 := bkf.cell 2
            have t0 := bZf.cell 0
            have t1 := bZf.cell 1
            have t2 := bZf.cell 2
            have f0 := bZf.frozen 0
            have f1 := bZf.frozen 1
            have f2 := bZf.frozen 2
            have ql := bZf.lt
            have ql2 := bkf.lt
            simp at v0 v1 v2 t0 t1 t2
            have ownH := Lib.hid (((ownf.setCell (p := ⟨w.heap.size, 0, none⟩) (.inl (by dsimp only; omega)) (.int .i64 key)).setCell (p := ⟨w.heap.size, 1, none⟩) (.inl (by dsimp only; omega)) (.int .i64 pages)).setCell (p := ⟨w.heap.size, 2, none⟩) (.inl (by dsimp only; omega)) (.slice A k c))
            have hcH := Lib.hid (((hcf.setCell (p := ⟨w.heap.size, 0, none⟩) (by dsimp only; omega) (.int .i64 key)).setCell (p := ⟨w.heap.size, 1, none⟩) (by dsimp only; omega) (.int .i64 pages)).setCell (p := ⟨w.heap.size, 2, none⟩) (by dsimp only; omega) (.slice A k c))
            have hFH := Lib.hid (((hFf.setNew (p := ⟨w.heap.size, 0, none⟩) (Nat.le_refl _) (.int .i64 key)).setNew (p := ⟨w.heap.size, 1, none⟩) (Nat.le_refl _) (.int .i64 pages)).setNew (p := ⟨w.heap.size, 2, none⟩) (Nat.le_refl _) (.slice A k c))
            clear bkf bZf ownf hcf hFf
            go_wp2_with fail
            refine bodyPost_ret (v := .agg #[.int .i64 key, .int .i64 pages, .slice A k c]) (by simp [results, Try.results69, go_sem, t0, t1, t2]) rfl ?_
            have husx := hus.out
            exact ⟨key, pages, us, A, c, by rw [husx], by omega, by omega, by rw [husx]; exact ownH.out.mono (by omega) (by simp only [size_setCell]; exact Nat.le_refl _), hcH.out.le (by omega), hFH.out⟩
end Go.Proofs.Yteajjbfecpffeaa
