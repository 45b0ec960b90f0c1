/-
  Contracts of the statements' cursor, which draws choices out of bytes: next, pick, one, among. The conditions are bounds on how often it has been asked.
-/
import Derived.Test.YtjhbffndiaggmaaGreatDoorBL1
import Derived.IntWalk
import Derived.Deep.RegionHeld3
namespace Go.Proofs.YtjhbffndiaggmaaGreatDoor
open Go.RowKit Go.ChangeShapes Go.WideShapes
set_option linter.unusedVariables false
set_option linter.unusedSimpArgs false

/-- the bytes lie in blocks below g -/
def CodeAt (w : World) (g : Nat) (A : Option Addr) (n : Nat) : Prop := 0 < n → ∃ b off, A = some ⟨b, off, none⟩ ∧ b < g ∧ ∀ j, j < n → ∃ z : Int, w.cell? ⟨b, off + j, none⟩ = some (.int .u8 z) ∧ 0 ≤ z ∧ z ≤ 255
/-- the cursor in block g, asked at most N times -/
def Cur (w : World) (g N : Nat) : Prop := ∃ A n c a s, Bk w g 102 #[.slice A n c, .int .i64 a, .int .u64 s] ∧ (0 ≤ a ∧ a ≤ (N : Int)) ∧ n ≤ 9223372036854775807 ∧ n ≤ c ∧ CodeAt w g A n
section
variable {w w' : World} {g N M lo hi B : Nat}
theorem CodeAt.keep {A : Option Addr} {n : Nat} (h : CodeAt w g A n) (hk : ∀ b o, b < g → b < w.heap.size → w'.cell? ⟨b, o, none⟩ = w.cell? ⟨b, o, none⟩) : CodeAt w' g A n := fun hp => by
  obtain ⟨b, off, e, hb, hc⟩ := h hp
  exact ⟨b, off, e, hb, fun j hj => by
    obtain ⟨z, h1, h2⟩ := hc j hj
    exact ⟨z, (hk b _ hb (World.block_lt_of_cell? w _ h1)).trans h1, h2⟩⟩
theorem Cur.keep (h : Cur w g N) (hk : ∀ b, b ≤ g → b < w.heap.size → w'.heap[b]? = w.heap[b]?) : Cur w' g N := by
  obtain ⟨A, n, c, a, s, h1, h2, h3, h4, h5⟩ := h
  exact ⟨A, n, c, a, s, h1.keep (hk g (Nat.le_refl _) h1.lt), h2, h3, h4, h5.keep fun b o hb hl => World.cell?_of_block (w := w) (hk b (Nat.le_of_lt hb) hl)⟩
theorem Cur.lt (h : Cur w g N) : g < w.heap.size := by
  obtain ⟨A, n, c, a, s, h1, _⟩ := h
  exact h1.lt
theorem Cur.le (h : Cur w g N) (hN : N ≤ M) : Cur w g M := by
  obtain ⟨A, n, c, a, s, h1, h2, h3⟩ := h
  exact ⟨A, n, c, a, s, h1, by omega, h3⟩
theorem Cur.below (h : Cur w g N) (hb : Below B w w') (hB : g < B) : Cur w' g N := h.keep fun b h1 _ => hb.block b (by omega)
theorem Cur.st (h : Cur w g N) (hb : Below w.heap.size w w') : Cur w' g N := h.below hb h.lt
theorem Cur.alloc (h : Cur w g N) (o : Obj) : Cur (w.alloc o) g N := h.keep fun b _ h2 => Below.heap_alloc w o b h2
theorem Cur.drew (h : Cur w g N) : Cur w.drew g N := h
theorem Cur.drewN (h : Cur w g N) (k : Nat) : Cur (w.drewN k) g N := h
theorem Cur.setCell (h : Cur w g N) {p : Addr} (hp : g < p.block) (u : Value) : Cur (w.setCell p u) g N := h.keep fun b h1 _ => Below.heap_setCell w p u b (by omega)
theorem Cur.frc (h : Cur w g N) (hf : Fr lo hi w w') (hd : g < lo) : Cur w' g N := h.keep fun b h1 h2 => hf.block b h2 (by omega)
end
/-- what asking leaves: the cursor, and all else as it was -/
structure Asked (g N k : Nat) (w w' : World) : Prop where
  cur : Cur w' g (N + k)
  fr : Fr g (g + 1) w w'
theorem band_bd (x : Int) : 0 ≤ wrap64 (bits .and .u64 x 255) ∧ wrap64 (bits .and .u64 x 255) ≤ 255 := by
  have h1 : ((BitVec.ofInt 64 x) &&& (BitVec.ofInt 64 255)).toNat ≤ 255 := by
    rw [BitVec.toNat_and]
    exact Nat.le_trans Nat.and_le_right (by decide)
  have h2 : bits .and .u64 x 255 = (((BitVec.ofInt 64 x) &&& (BitVec.ofInt 64 255)).toNat : Int) := by
    show IntKind.u64.wrap ((((BitVec.ofInt 64 x) &&& (BitVec.ofInt 64 255)).toNat : Nat) : Int) = _
    exact IntWalk.u64_in _ (by omega)
  rw [h2, IntWalk.wrap64_in _ (by omega)]
  omega
set_option maxRecDepth 100000 in
set_option maxHeartbeats 4000000 in
theorem next_any (g N : Nat) (w : World) (hc : Cur w g N) (hN : N ≤ 4611686018427387904) :
    Calls Tryz.prog 158 #[.pointer (some ⟨g, 0, none⟩)] w fun e w' => ∃ x : Int, e = .returned (.int .i64 x) ∧ (0 ≤ x ∧ x ≤ 255) ∧ Cur w' g (N + 1) ∧ Fr g (g + 1) w w' ∧ w'.heap.size = w.heap.size := by
  obtain ⟨A, n, c, a, s, hb, ⟨ha0, ha1⟩, hn, hnc, hcd⟩ := hc
  obtain ⟨i, rfl⟩ : ∃ i : Nat, a = (i : Int) := ⟨a.toNat, by omega⟩
  have y0 := hb.cell 0
  have y1 := hb.cell 1
  have y2 := hb.cell 2
  have f1 := hb.frozen 1
  have f2 := hb.frozen 2
  have hgl := hb.lt
  simp at y0 y1 y2
  have hw : wrap64 ((i : Int) + 1) = (i : Int) + 1 := IntWalk.wrap64_in _ (by omega)
  have hw' : IntKind.i64.wrap ((i : Int) + 1) = (i : Int) + 1 := IntWalk.i64_in _ (by omega)
  by_cases hlt : i < n
  · obtain ⟨b, off, rfl, hbg, hcell⟩ := hcd (by omega)
    obtain ⟨z, x0, hz0, hz1⟩ := hcell i hlt
    have hlti : (i : Int) < (n : Int) := by omega
    have hi0 : (0 : Int) ≤ (i : Int) := by omega
    have hlti2 : (i : Int) + 1 ≤ (n : Int) := by omega
    have hwz : IntKind.i64.wrap z = z := IntWalk.i64_in _ (by omega)
    have hcdH := Lib.hid hcd
    have hbH := Lib.hid hb
    clear hcell hcd hb
    go_enter Tryz.func158, Tryz.ntmps158
    go_wp2_with fail
    go_region_held3 (fun w' => w'.cell? ⟨g, 0, none⟩ = some (.slice (some ⟨b, off, none⟩) n c) ∧ w'.cell? ⟨g, 1, none⟩ = some (.int .i64 (i : Int))) (((try go_split_ands); (try dsimp only); (repeat' apply And.intro) <;> (first | assumption | (simp only [*]; done)))) (fail)
    go_wp2_with fail
    go_region_held3 (fun w' => w'.cell? ⟨g, 0, none⟩ = some (.slice (some ⟨b, off, none⟩) n c) ∧ w'.cell? ⟨g, 1, none⟩ = some (.int .i64 (i : Int)) ∧ w'.cell? ⟨b, off + i, none⟩ = some (.int .u8 z)) (((try go_split_ands); (try dsimp only); (repeat' apply And.intro) <;> (first | assumption | (simp only [*]; done)))) (fail)
    go_wp2_with fail
    obtain ⟨sd, hsd⟩ : ∃ sd, sd = IntKind.u64.wrap (IntKind.u64.wrap (IntKind.u64.wrap (s * 6364136223846793005) + z) + 1442695040888963407) := ⟨_, rfl⟩
    obtain ⟨W, hW⟩ : ∃ W, W = ((w.setCell ⟨g, 1, none⟩ (.int .i64 ((i : Int) + 1))).setCell ⟨g, 2, none⟩ (.int .u64 sd)).drew.drew := ⟨_, rfl⟩
    rw [← hsd, ← hW]
    have bW : Bk W g 102 #[.slice (some ⟨b, off, none⟩) n c, .int .i64 ((i : Int) + 1), .int .u64 sd] := by
      have bW0 := (hbH.out.set_ 1 (.int .i64 ((i : Int) + 1))).set_ 2 (.int .u64 sd)
      simp at bW0
      rw [hW]
      exact bW0
    have hF : Fr g (g + 1) w W := by rw [hW]; exact (((Fr.refl g (g + 1) w).setCell (p := ⟨g, 1, none⟩) ⟨Nat.le_refl _, by dsimp only; omega⟩ _).setCell (p := ⟨g, 2, none⟩) ⟨Nat.le_refl _, by dsimp only; omega⟩ _).drew.drew
    have hsz : W.heap.size = w.heap.size := by rw [hW]; simp [size_setCell]
    have u0 := bW.cell 0
    have u1 := bW.cell 1
    have u2 := bW.cell 2
    simp at u0 u1 u2
    have hcW : CodeAt W g (some ⟨b, off, none⟩) n := hcdH.out.keep fun b o h1 h2 => World.cell?_of_block (w := w) (hF.block b h2 (by omega))
    have hcur : Hid (Cur W g (N + 1)) := Lib.hid ⟨_, n, c, _, sd, bW, by omega, hn, hnc, hcW⟩
    have hFH := Lib.hid hF
    have hszH := Lib.hid hsz
    clear hW hsd bW hF hsz hcW y0 y1 y2 f1 f2 x0 hcdH hbH hw hw'
    go_region_held3 (fun w' => w'.cell? ⟨g, 0, none⟩ = some (.slice (some ⟨b, off, none⟩) n c) ∧ w'.cell? ⟨g, 1, none⟩ = some (.int .i64 ((i : Int) + 1))) (((try go_split_ands); (try dsimp only); (repeat' apply And.intro) <;> (first | assumption | (simp only [*]; done)))) (fail)
    go_wp2_with fail
    go_ret
    exact ⟨z, rfl, ⟨hz0, hz1⟩, hcur.out.drew, hFH.out.drew, hszH.out⟩
  · have hlti : ¬ (i : Int) < (n : Int) := by omega
    have hlti2 : ¬ (i : Int) + 1 ≤ (n : Int) := by omega
    have hi0 : (0 : Int) ≤ (i : Int) := by omega
    have hcdH := Lib.hid hcd
    have hbH := Lib.hid hb
    clear hcd hb
    go_enter Tryz.func158, Tryz.ntmps158
    go_wp2_with fail
    go_region_held3 (fun w' => w'.cell? ⟨g, 0, none⟩ = some (.slice A n c) ∧ w'.cell? ⟨g, 1, none⟩ = some (.int .i64 (i : Int))) (((try go_split_ands); (try dsimp only); (repeat' apply And.intro) <;> (first | assumption | (simp only [*]; done)))) (fail)
    go_wp2_with fail
    obtain ⟨sd, hsd⟩ : ∃ sd, sd = IntKind.u64.wrap (IntKind.u64.wrap (IntKind.u64.wrap (s * 6364136223846793005)) + 1442695040888963407) := ⟨_, rfl⟩
    obtain ⟨W, hW⟩ : ∃ W, W = ((w.setCell ⟨g, 1, none⟩ (.int .i64 ((i : Int) + 1))).setCell ⟨g, 2, none⟩ (.int .u64 sd)).drew := ⟨_, rfl⟩
    rw [← hsd, ← hW]
    have bW : Bk W g 102 #[.slice A n c, .int .i64 ((i : Int) + 1), .int .u64 sd] := by
      have bW0 := (hbH.out.set_ 1 (.int .i64 ((i : Int) + 1))).set_ 2 (.int .u64 sd)
      simp at bW0
      rw [hW]
      exact bW0
    have hF : Fr g (g + 1) w W := by rw [hW]; exact (((Fr.refl g (g + 1) w).setCell (p := ⟨g, 1, none⟩) ⟨Nat.le_refl _, by dsimp only; omega⟩ _).setCell (p := ⟨g, 2, none⟩) ⟨Nat.le_refl _, by dsimp only; omega⟩ _).drew
    have hsz : W.heap.size = w.heap.size := by rw [hW]; simp [size_setCell]
    have u0 := bW.cell 0
    have u1 := bW.cell 1
    have u2 := bW.cell 2
    simp at u0 u1 u2
    have hcW : CodeAt W g A n := hcdH.out.keep fun b o h1 h2 => World.cell?_of_block (w := w) (hF.block b h2 (by omega))
    have hcur : Hid (Cur W g (N + 1)) := Lib.hid ⟨_, n, c, _, sd, bW, by omega, hn, hnc, hcW⟩
    have hFH := Lib.hid hF
    have hszH := Lib.hid hsz
    clear hW hsd bW hF hsz hcW y0 y1 y2 f1 f2  hcdH hbH hw hw'
    go_region_held3 (fun w' => w'.cell? ⟨g, 0, none⟩ = some (.slice A n c) ∧ w'.cell? ⟨g, 1, none⟩ = some (.int .i64 ((i : Int) + 1))) (((try go_split_ands); (try dsimp only); (repeat' apply And.intro) <;> (first | assumption | (simp only [*]; done)))) (fail)
    go_wp2_with fail
    go_ret
    exact ⟨_, rfl, band_bd _, hcur.out.drew, hFH.out.drew, hszH.out⟩
set_option maxRecDepth 100000 in
theorem pick_any (g N : Nat) (n : Int) (w : World) (hc : Cur w g N) (hN : N ≤ 4611686018427387900) (hn : n ≤ 9223372036854775807) :
    Calls Tryz.prog 115 #[.pointer (some ⟨g, 0, none⟩), .int .i64 n] w fun e w' => ∃ x : Int, e = .returned (.int .i64 x) ∧ (0 ≤ x ∧ (x < n ∨ x = 0)) ∧ Cur w' g (N + 2) ∧ Fr g (g + 1) w w' ∧ w'.heap.size = w.heap.size := by
  by_cases h1 : n ≤ 1
  · go_enter Tryz.func115, Tryz.ntmps115
    go_wp2_with fail
    go_ret
    exact ⟨0, rfl, ⟨Int.le_refl _, .inr rfl⟩, hc.le (by omega), Fr.refl _ _ _, rfl⟩
  · by_cases h2 : 200 < n
    · have hn0 : ¬ n = 0 := by omega
      have hn1 : ¬ n = -1 := by omega
      go_enter Tryz.func115, Tryz.ntmps115
      go_wp2_with fail
      (with_reducible refine (next_any g N _ hc (by omega)).mono ?_)
      rintro e w1 ⟨x, rfl, hx, hc1, hf1, hs1⟩
      have hw : wrap64 (x * 256) = x * 256 := IntWalk.wrap64_in _ (by omega)
      have hw' : IntKind.i64.wrap (x * 256) = x * 256 := IntWalk.i64_in _ (by omega)
      have hf1H := Lib.hid hf1
      have hs1H := Lib.hid hs1
      clear hf1 hs1
      go_wp2_with fail
      (with_reducible refine (next_any g (N + 1) _ hc1 (by omega)).mono ?_)
      rintro e w2 ⟨y, rfl, hy, hc2, hf2, hs2⟩
      have hv : wrap64 (x * 256 + y) = x * 256 + y := IntWalk.wrap64_in _ (by omega)
      have hv' : IntKind.i64.wrap (x * 256 + y) = x * 256 + y := IntWalk.i64_in _ (by omega)
      have hm : (x * 256 + y).tmod n = (x * 256 + y) % n := by rw [Int.tmod_eq_emod_of_nonneg (by omega)]
      have hb0 := Int.emod_nonneg (x * 256 + y) hn0
      have hb1 := Int.emod_lt_of_pos (x * 256 + y) (show 0 < n by omega)
      have hf2H := Lib.hid (hf1H.out.trans hf2)
      have hs2H := Lib.hid (hs2.trans hs1H.out)
      have hc2H := Lib.hid hc2
      clear hf2 hs2 hc2
      go_wp2_with fail
      go_ret
      exact ⟨_, rfl, ⟨hb0, .inl hb1⟩, hc2H.out, hf2H.out, hs2H.out⟩
    · have hn0 : ¬ n = 0 := by omega
      have hn1 : ¬ n = -1 := by omega
      go_enter Tryz.func115, Tryz.ntmps115
      go_wp2_with fail
      (with_reducible refine (next_any g N _ hc (by omega)).mono ?_)
      rintro e w1 ⟨x, rfl, hx, hc1, hf1, hs1⟩
      have hm : x.tmod n = x % n := by rw [Int.tmod_eq_emod_of_nonneg (by omega)]
      have hb0 := Int.emod_nonneg x hn0
      have hb1 := Int.emod_lt_of_pos x (show 0 < n by omega)
      have hc1H := Lib.hid (hc1.le (show N + 1 ≤ N + 2 by omega))
      have hf1H := Lib.hid hf1
      have hs1H := Lib.hid hs1
      clear hf1 hs1 hc1
      go_wp2_with fail
      go_ret
      exact ⟨_, rfl, ⟨hb0, .inl hb1⟩, hc1H.out, hf1H.out, hs1H.out⟩
set_option maxRecDepth 100000 in
theorem one_any (g N : Nat) (n : Int) (w : World) (hc : Cur w g N) (hN : N ≤ 4611686018427387900) (hn : n ≤ 9223372036854775807) :
    Calls Tryz.prog 101 #[.pointer (some ⟨g, 0, none⟩), .int .i64 n] w fun e w' => ∃ v : Bool, e = .returned (.bool v) ∧ Cur w' g (N + 2) ∧ Fr g (g + 1) w w' ∧ w'.heap.size = w.heap.size := by
  go_enter Tryz.func101, Tryz.ntmps101
  go_wp2_with fail
  (with_reducible refine (pick_any g N n _ hc hN hn).mono ?_)
  rintro e w1 ⟨x, rfl, hx, hc1, hf1, hs1⟩
  have hc1H := Lib.hid hc1
  have hf1H := Lib.hid hf1
  have hs1H := Lib.hid hs1
  clear hf1 hs1 hc1
  go_wp2_with fail
  go_ret
  exact ⟨_, rfl, hc1H.out, hf1H.out, hs1H.out⟩
set_option maxRecDepth 100000 in
theorem among_any (g N : Nat) (zs : List Int) (A : Option Addr) (m c : Nat) {lo hi : Nat} (w : World) (hc : Cur w g N) (hN : N ≤ 4611686018427387900) (hr : Rd w lo hi A zs) (hm : m = zs.length) (h0 : 0 < zs.length) (hl : zs.length ≤ 1048576) (hg : hi ≤ g ∨ g < lo) :
    Calls Tryz.prog 122 #[.pointer (some ⟨g, 0, none⟩), .slice A m c] w fun e w' => ∃ x : Int, e = .returned (.int .i64 x) ∧ x ∈ zs ∧ Cur w' g (N + 2) ∧ Fr g (g + 1) w w' ∧ w'.heap.size = w.heap.size := by
  have hmH := Lib.hid hm
  obtain ⟨b, off, rfl, b1, b2, hcell⟩ := hr h0
  go_enter Tryz.func122, Tryz.ntmps122
  clear hm
  go_wp2_with fail
  (with_reducible refine (pick_any g N (m : Int) _ hc hN (by have := hmH.out; omega)).mono ?_)
  rintro e w1 ⟨x, rfl, ⟨hx0, hx1⟩, hc1, hf1, hs1⟩
  obtain ⟨k, rfl⟩ : ∃ k : Nat, x = (k : Int) := ⟨x.toNat, by omega⟩
  have hk : k < zs.length := by have := hmH.out; omega
  have hk2 : (k : Int) < (m : Int) := by have := hmH.out; omega
  have hk0 : (0 : Int) ≤ (k : Int) := by omega
  have x0 : w1.cell? ⟨b, off + k, none⟩ = some (.int .i64 zs[k]) := (World.cell?_of_block (w := w) (hf1.block b (World.block_lt_of_cell? w _ (hcell k hk)) (by omega))).trans (hcell k hk)
  have hc1H := Lib.hid hc1
  have hf1H := Lib.hid hf1
  have hs1H := Lib.hid hs1
  clear hf1 hs1 hc1 hcell hx1
  go_wp2_with fail
  go_ret
  exact ⟨_, rfl, List.getElem_mem hk, hc1H.out, hf1H.out, hs1H.out⟩
end Go.Proofs.YtjhbffndiaggmaaGreatDoor
