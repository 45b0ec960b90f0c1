/-
  Contracts of the cursor's texts: one of several, and one that is spoilt. The conditions are bounds on lengths and on how often the cursor has been asked.
-/
import Derived.Test.YtjhbffndiaggmaaGreatDoorBL7
import Derived.Test.YtjhbffndiaggmaaGreatDoorZLText
import Derived.Deep.QuietTactic
import Derived.BigQuiet
namespace Go.Proofs.YtjhbffndiaggmaaGreatDoor
open Go.RowKit Go.ChangeShapes Go.WideShapes
set_option linter.unusedVariables false
set_option linter.unusedSimpArgs false

/-- a slice of texts of at most M bytes each -/
def RdT (w : World) (lo hi : Nat) (A : Option Addr) (n M : Nat) : Prop := 0 < n → ∃ b off, A = some ⟨b, off, none⟩ ∧ lo ≤ b ∧ b < hi ∧ ∀ j, j < n → ∃ s : ByteArray, w.cell? ⟨b, off + j, none⟩ = some (.string s) ∧ s.size ≤ M
def strV (M : Nat) : Value → Bool
  | .string s => decide (s.size ≤ M)
  | _ => false
theorem strV_some {M : Nat} {v : Value} (h : strV M v = true) : ∃ s, v = .string s ∧ s.size ≤ M := by
  cases v <;> simp [strV] at h
  exact ⟨_, rfl, h⟩
theorem RdT.new (w : World) (t : TypeId) (cs : Array Value) (M : Nat) (h : cs.all (strV M) = true) : RdT (w.alloc (.cells cs t)) w.heap.size (w.heap.size + 1) (some ⟨w.heap.size, 0, none⟩) cs.size M := fun _ => by
  refine ⟨w.heap.size, 0, rfl, Nat.le_refl _, Nat.lt_succ_self _, fun j hj => ?_⟩
  obtain ⟨s, e, hs⟩ := strV_some (Array.all_eq_true.1 h j hj)
  refine ⟨s, ?_, hs⟩
  rw [Nat.zero_add, (Bk.new w t cs).cell j, Array.getElem?_eq_getElem hj, e]
set_option maxRecDepth 100000 in
set_option maxHeartbeats 4000000 in
theorem of_any (g N n M : Nat) (A : Option Addr) (c : Nat) {lo hi : Nat} (w : World) (hc : Cur w g N) (hN : N ≤ 4611686018427387900) (hr : RdT w lo hi A n M) (h0 : 0 < n) (hl : n ≤ 1048576) (hg : hi ≤ g ∨ g < lo) :
    Calls Tryz.prog 100 #[.pointer (some ⟨g, 0, none⟩), .slice A n c] w fun e w' => ∃ s : ByteArray, e = .returned (.string s) ∧ s.size ≤ M ∧ Cur w' g (N + 2) ∧ Fr g (g + 1) w w' := by
  obtain ⟨b, off, rfl, b1, b2, hcell⟩ := hr h0
  go_enter Tryz.func100, Tryz.ntmps100
  go_wp2_with fail
  (with_reducible refine (pick_any g N (n : Int) _ hc hN (by omega)).mono ?_)
  rintro e w1 ⟨x, rfl, ⟨hx0, hx1⟩, hc1, hf1, hs1⟩
  obtain ⟨k, rfl⟩ : ∃ k : Nat, x = (k : Int) := ⟨x.toNat, by omega⟩
  have hk : k < n := by omega
  have hk2 : (k : Int) < (n : Int) := by omega
  have hk0 : (0 : Int) ≤ (k : Int) := by omega
  obtain ⟨s, y0, hsz⟩ := hcell k hk
  have x0 : w1.cell? ⟨b, off + k, none⟩ = some (.string s) := (World.cell?_of_block (w := w) (hf1.block b (World.block_lt_of_cell? w _ y0) (by omega))).trans y0
  have hc1H := Lib.hid hc1
  have hf1H := Lib.hid hf1
  clear hf1 hs1 hc1 hcell hx1 y0
  go_wp2_with fail
  go_ret
  exact ⟨s, rfl, hsz, hc1H.out, hf1H.out⟩
set_option maxRecDepth 100000 in
set_option maxHeartbeats 8000000 in
theorem spoilt_any (g N : Nat) (t0 s : ByteArray) (w : World) (hc : Cur w g N) (hN : N ≤ 4611686018427380000) (ht : t0.size ≤ 1048570) (hs : 0 < s.size) (hs2 : s.size ≤ 100) :
    Calls Tryz.prog 102 #[.pointer (some ⟨g, 0, none⟩), .string t0, .string s] w fun e w' => ∃ u : ByteArray, e = .returned (.string u) ∧ u.size ≤ t0.size + 2 ∧ Cur w' g (N + 14) ∧ Fr g (g + 1) w w' := by
  have hgl := hc.lt
  have hF := Fr.refl g (g + 1) w
  go_enter Tryz.func102, Tryz.ntmps102
  go_wp2_with fail
  (with_reducible refine (pick_any g N 2 _ hc (by omega) (by omega)).mono ?_)
  rintro e w1 ⟨x, rfl, hx, hcn, f1, z1⟩
  clear hc
  have hc := hcn
  clear hcn
  have s1 : w.heap.size ≤ w1.heap.size := f1.size
  replace hF := hF.trans f1
  clear f1 z1
  obtain ⟨n, rfl⟩ : ∃ n : Nat, x = (n : Int) := ⟨x.toNat, by omega⟩
  have hn2 : n ≤ 1 := by omega
  clear hx
  have v1 : IntKind.i64.wrap (1 + (n : Int)) = 1 + (n : Int) := IntWalk.i64_in _ (by omega)
  go_wp2_with fail
  go_loopw [1, 7] (fun t n wr => ∃ (u : ByteArray) (m : Nat), t = .string u ∧ n = .int .i64 (m : Int) ∧ m ≤ 2 ∧ u.size + m ≤ t0.size + 2 ∧ Cur wr g (N + 14 - 6 * m) ∧ Fr g (g + 1) w wr) (fun _ n _ => (intOf n).toNat)
  case atStart => exact ⟨t0, n + 1, rfl, by first | (congr 1; omega) | go_num, by omega, by omega, hc.le (by omega), hF⟩
  case round =>
    clear hc hF v1
    obtain ⟨u, m, rfl, rfl, hm2, hum, hc, hF⟩ := hrel
    have hgr := hc.lt
    have hsr : w.heap.size ≤ wr.heap.size := hF.size
    by_cases hm0 : 0 < m
    · have hm1 : (0 : Int) < (m : Int) := by omega
      by_cases hu0 : 0 < u.size
      · have hu1 : (0 : Int) < (u.size : Int) := by omega
        have v0' : wrap64 ((m : Int) - 1) = (m : Int) - 1 := IntWalk.wrap64_in _ (by omega)
        go_wp2_with fail
        (with_reducible refine (pick_any g (N + 14 - 6 * m) (u.size : Int) _ hc (by omega) (by omega)).mono ?_)
        rintro e w2 ⟨x, rfl, ⟨hx0, hx1⟩, hcn, f2, z2⟩
        clear hc
        have hc := hcn
        clear hcn
        have s2 : wr.heap.size ≤ w2.heap.size := f2.size
        replace hF := hF.trans f2
        clear f2 z2
        obtain ⟨k, rfl⟩ : ∃ k : Nat, x = (k : Int) := ⟨x.toNat, by omega⟩
        have hk : k < u.size := by omega
        clear hx0 hx1
        go_wp2_with fail
        (with_reducible refine (pick_any g (N + 14 - 6 * m + 2) (s.size : Int) _ hc (by omega) (by omega)).mono ?_)
        rintro e w3 ⟨y, rfl, ⟨hy0, hy1⟩, hcn, f3, z3⟩
        clear hc
        have hc := hcn
        clear hcn
        have s3 : w2.heap.size ≤ w3.heap.size := f3.size
        replace hF := hF.trans f3
        clear f3 z3
        obtain ⟨j, rfl⟩ : ∃ j : Nat, y = (j : Int) := ⟨y.toNat, by omega⟩
        have hj : j < s.size := by omega
        have hj0 : (0 : Int) ≤ (j : Int) := by omega
        have hj2 : (j : Int) < (s.size : Int) := by omega
        clear hy0 hy1
        obtain ⟨d, hd⟩ : ∃ d : UInt8, d = s[j]'hj := ⟨_, rfl⟩
        have hd2 : s[j]'hj = d := hd.symm
        clear hd
        have hdl : d.toNat < 256 := UInt8.toNat_lt d
        have hcv : ∀ (W : World) (q : Nat), W.cell? ⟨q, 0, none⟩ = some (.int .u8 (d.toNat : Int)) → (convert 22 9 (.slice (some ⟨q, 0, none⟩) 1 1)).run Tryz.prog W = .ok (.string (str [d])) W := fun W q hc => by
          have h := conv_digit (d.toNat : Int) (by omega) (by omega) W q 1 hc
          rw [show UInt8.ofNat ((d.toNat : Int)).toNat = d by simp] at h
          exact h
        go_wp2_with fail
        obtain ⟨w4, hw4⟩ : ∃ u, u = w3.alloc (.cells #[.int .u8 (d.toNat : Int)] 5) := ⟨_, rfl⟩
        rw [← hw4]
        have e4 : w4.heap.size = w3.heap.size + 1 := by rw [hw4]; simp
        have s4 : w3.heap.size + 1 ≤ w4.heap.size := by omega
        have b4 : Below w3.heap.size w3 w4 := by rw [hw4]; exact (Below.refl _ _).alloc (Nat.le_refl _) _
        replace hF := hF.then_below b4 hF.size
        replace hc := hc.st b4
        replace e4 := Lib.hid e4
        clear b4 hw4
        clear hcv
        (with_reducible refine (pick_any g (N + 14 - 6 * m + 4) 3 _ hc (by omega) (by omega)).mono ?_)
        rintro e w5 ⟨z, rfl, hz, hcn, f5, z5⟩
        clear hc
        have hc := hcn
        clear hcn
        have s5 : w4.heap.size ≤ w5.heap.size := f5.size
        replace hF := hF.trans f5
        clear f5 z5
        have hk0 : (0 : Int) ≤ (k : Int) := by omega
        have hk2 : (k : Int) ≤ (u.size : Int) := by omega
        have hk3 : (k : Int) + 1 ≤ (u.size : Int) := by omega
        have w1 : IntKind.i64.wrap ((k : Int) + 1) = (k : Int) + 1 := IntWalk.i64_in _ (by omega)
        have w2 : ((k : Int) + 1).toNat = k + 1 := by omega
        have w3 : (0 : Int) ≤ (k : Int) + 1 := by omega
        have l1 : (u.extract 0 k).size = k := by rw [ByteArray.size_extract]; omega
        have l2 : (u.extract k u.size).size = u.size - k := by rw [ByteArray.size_extract]; omega
        have l3 : (u.extract (k + 1) u.size).size = u.size - (k + 1) := by rw [ByteArray.size_extract]; omega
        have l4 : (str [d]).size = 1 := by rw [str_size]; rfl
        have n1 : ¬ (9223372036854775807 < (u.extract 0 k).size + (str [d]).size) := by omega
        have n2 : ¬ (9223372036854775807 < (u.extract 0 k ++ str [d]).size + (u.extract k u.size).size) := by rw [ByteArray.size_append]; omega
        have n3 : ¬ (9223372036854775807 < (u.extract 0 k ++ str [d]).size + (u.extract (k + 1) u.size).size) := by rw [ByteArray.size_append]; omega
        have n4 : ¬ (9223372036854775807 < (u.extract 0 k).size + (u.extract (k + 1) u.size).size) := by omega
        obtain ⟨q1, hq1⟩ : ∃ q, q = u.extract 0 k := ⟨_, rfl⟩
        obtain ⟨q2, hq2⟩ : ∃ q, q = u.extract k u.size := ⟨_, rfl⟩
        skip
        have hcH := Lib.hid hc
        have hFH := Lib.hid hF
        clear hc hF
        by_cases z0 : z = 0
        · subst z0
          go_wp2_with fail
          go_quiet (fail)
          have hcN := Lib.hid (hcH.out.drewN nq)
          have hFN := Lib.hid (hFH.out.drewN nq)
          clear n1 n2 n3 n4
          go_wp2_with fail
          go_roundw
          case rel => exact ⟨u.extract 0 k ++ str [d] ++ u.extract k u.size, m - 1, rfl, by first | (congr 1; omega) | go_num, by omega, by (try simp only [ByteArray.size_append]); omega, hcN.out.le (by omega), hFN.out⟩
          case measure => simp [intOf]; omega
        · by_cases z1 : z = 1
          · subst z1
            go_wp2_with fail
            go_quiet (fail)
            have hcN := Lib.hid (hcH.out.drewN nq)
            have hFN := Lib.hid (hFH.out.drewN nq)
            clear n1 n2 n3 n4
            go_wp2_with fail
            go_roundw
            case rel => exact ⟨u.extract 0 k ++ str [d] ++ u.extract (k + 1) u.size, m - 1, rfl, by first | (congr 1; omega) | go_num, by omega, by (try simp only [ByteArray.size_append]); omega, hcN.out.le (by omega), hFN.out⟩
            case measure => simp [intOf]; omega
          · go_wp2_with fail
            go_quiet (fail)
            have hcN := Lib.hid (hcH.out.drewN nq)
            have hFN := Lib.hid (hFH.out.drewN nq)
            clear n1 n2 n3 n4
            go_wp2_with fail
            go_roundw
            case rel => exact ⟨u.extract 0 k ++ u.extract (k + 1) u.size, m - 1, rfl, by first | (congr 1; omega) | go_num, by omega, by (try simp only [ByteArray.size_append]); omega, hcN.out.le (by omega), hFN.out⟩
            case measure => simp [intOf]; omega
      · have hu1 : ¬ ((0 : Int) < (u.size : Int)) := by omega
        have hFH := Lib.hid hF
        have hcH := Lib.hid hc
        clear hF hc
        go_wp2_with fail
        go_ret
        exact ⟨u, rfl, by omega, hcH.out.le (by omega), hFH.out⟩
    · have hm1 : ¬ ((0 : Int) < (m : Int)) := by omega
      have hFH := Lib.hid hF
      have hcH := Lib.hid hc
      clear hF hc
      go_wp2_with fail
      go_ret
      exact ⟨u, rfl, by omega, hcH.out.le (by omega), hFH.out⟩
end Go.Proofs.YtjhbffndiaggmaaGreatDoor
