/-
  Contracts of the statements' own helpers on slices of integers: size, copy, equality, marks. The conditions are bounds on the lengths.
-/
import Derived.Test.YteajjbfecpffeaaMem
import Derived.Test.YteajjbfecpffeaaPure
import Derived.BigQuiet
import Derived.Deep.QuietTactic
namespace Go.Proofs.Yteajjbfecpffeaa
open Go.RowKit Go.ChangeShapes Go.WideShapes
set_option linter.unusedVariables false

def szL (n : Nat) (left : Int) : Int := if left - (n : Int) < 0 then -1 else left - (n : Int)

theorem szIntS_any (zs : List Int) (A : Option Addr) (c : Nat) (left : Int) (w : World) (hl : zs.length ≤ 9223372036854775807) (h0 : 0 ≤ left) (h1 : left ≤ 1048576) :
    Calls Try.prog 90 #[.slice A zs.length c, .int .i64 left] w fun e w' => e = .returned (.int .i64 (szL zs.length left)) ∧ w = w' := by
  by_cases h : left - (zs.length : Int) < 0
  · go_enter Try.func90, Try.ntmps90
    go_wp2
    go_ret
    exact ⟨by simp [szL, h], rfl⟩
  · go_enter Try.func90, Try.ntmps90
    go_wp2
    go_ret
    exact ⟨by simp [szL]; omega, rfl⟩

set_option maxHeartbeats 400000 in
theorem toIntS_any (zs : List Int) (A : Option Addr) (c : Nat) {l h : Nat} (w : World) (hr0 : Rd w l h A zs) (hl : zs.length ≤ 1099511627776) :
    Calls Try.prog 93 #[.slice A zs.length c] w fun e w' => ∃ v, e = .returned v ∧ Own w' w.heap.size w'.heap.size v zs ∧ Below w.heap.size w w' := by
  have hr := hr0.std
  clear hr0
  go_enter Try.func93, Try.ntmps93
  go_wp2_with (at_make; refine wp_make_ints rfl _ _ rfl zs.length rfl rfl hl ?_; intro w1 hown1 hb1 hs1)
  go_loopw [4] (fun i wr => ∃ k : Nat, k ≤ zs.length ∧ i = .int .i64 k ∧ Own wr w.heap.size (w.heap.size + 1) (.slice (some ⟨w.heap.size, 0, none⟩) zs.length zs.length) (tk zs k) ∧ Below w.heap.size w wr ∧ wr.heap.size = w.heap.size + 1) (fun i _ => zs.length - (intOf i).toNat)
  case atStart => exact ⟨0, Nat.zero_le _, rfl, by rw [tk_zero, ← hs1]; exact hown1, hb1, hs1⟩
  case round =>
    obtain ⟨k, hk, rfl, hown, hb, hs⟩ := hrel
    by_cases hlt : k < zs.length
    · obtain ⟨b, off, rfl, _, _, hc⟩ := (hr.below hb (Nat.le_refl _)) (by omega)
      have hck := hc k hlt
      clear hc
      have hst := hown.stored (j := k) zs[k]
      rw [tk_succ zs k hlt] at hst
      obtain ⟨g, c', he, _, _, _, hcell, hfr⟩ := hown.at_ (by rw [tk_length _ _ hk]; omega)
      injection he with h1 h2 h3
      injection h1 with h1
      injection h1 with h1 h4
      subst h1
      have hf := hfr k
      obtain ⟨x, hcd⟩ : ∃ x, wr.cell? ⟨w.heap.size, k, none⟩ = some (.int .i64 x) := ⟨_, hcell k (by rw [tk_length _ _ hk]; omega)⟩
      clear hcell hfr h2 h3 h4
      have hb2 := hb.setCell (p := ⟨w.heap.size, k, none⟩) (Nat.le_refl _) (.int .i64 zs[k])
      have hst2 := Lib.hid hst
      clear hst hown
      have hs2 := Lib.hid hs
      clear hs
      go_wp2
      go_roundw
      case rel => exact ⟨k + 1, by omega, by go_num, hst2.out, hb2, by simpa [World.setCell] using hs2.out⟩
      case measure => simp [intOf]; omega
    · have hkk : k = zs.length := by omega
      subst hkk
      rw [tk_all] at hown
      have ho := Lib.hid hown
      have hs2 := Lib.hid hs
      clear hown hs
      go_wp2
      go_ret
      exact ⟨_, rfl, by rw [hs2.out]; exact ho.out, hb⟩

set_option maxHeartbeats 400000 in
theorem eqIntS_any (xs ys : List Int) (A A' : Option Addr) (c c' : Nat) {l h l' h' : Nat} (w : World) (hx : Rd w l h A xs) (hy : Rd w l' h' A' ys) (hl : xs.length ≤ 9223372036854775807) (hl' : ys.length ≤ 9223372036854775807) :
    Calls Try.prog 97 #[.slice A xs.length c, .slice A' ys.length c'] w fun e w' => e = .returned (.bool (eqL xs ys)) ∧ ∃ n, w.drewN n = w' := by
  by_cases hne : xs.length = ys.length
  · go_enter Try.func97, Try.ntmps97
    have hn : ((xs.length : Int) != (ys.length : Int)) = false := by simp [hne]
    have hneH := Lib.hid hne
    have hle : xs.length ≤ ys.length := by omega
    clear hne
    go_wp2
    go_loopw [5] (fun i wr => ∃ k : Nat, k ≤ xs.length ∧ i = .int .i64 k ∧ (∀ j (h1 : j < xs.length) (h2 : j < ys.length), j < k → xs[j] = ys[j]) ∧ ∃ n, w.drewN n = wr) (fun i _ => xs.length - (intOf i).toNat)
    case atStart => exact ⟨0, Nat.zero_le _, rfl, fun j _ _ h => absurd h (by omega), 0, rfl⟩
    case round =>
      obtain ⟨k, hk, rfl, hall, n, rfl⟩ := hrel
      have hallH := Lib.hid hall
      clear hall
      by_cases hlt : k < xs.length
      · obtain ⟨b, off, rfl, _, _, hc⟩ := hx (by omega)
        obtain ⟨b', off', rfl, _, _, hc'⟩ := hy (by omega)
        have hlt' : k < ys.length := by omega
        have hck := hc k hlt
        have hck' := hc' k hlt'
        clear hc hc'
        by_cases heq : xs[k] = ys[k]
        · have ht : (xs[k] != ys[k]) = false := by simp [heq]
          have hq := Lib.hid heq
          clear heq
          go_wp2
          go_quiet (fail)
          go_wp2
          go_roundw
          case rel => exact ⟨k + 1, by omega, by go_num, fun j h1 h2 h3 => by
            by_cases hj : j = k
            · subst hj; exact hq.out
            · exact hallH.out j h1 h2 (by omega), _, by first | rfl | exact (World.drewN_drewN _ _ _).symm⟩
          case measure => simp [intOf]; omega
        · have ht : (xs[k] != ys[k]) = true := by simp [heq]
          have hq := Lib.hid (eqL_at hlt hlt' heq)
          clear heq
          go_wp2
          go_quiet (fail)
          go_wp2
          go_ret
          exact ⟨by rw [hq.out]; rfl, _, by first | rfl | exact (World.drewN_drewN _ _ _).symm⟩
      · have hq := Lib.hid (eqL_take hneH.out fun j h1 h2 => hallH.out j h1 h2 (by omega))
        go_wp2
        go_ret
        exact ⟨by rw [hq.out]; rfl, _, rfl⟩
  · have hq := Lib.hid (eqL_len hne)
    have hn : ((xs.length : Int) != (ys.length : Int)) = true := by simp; omega
    clear hne
    go_enter Try.func97, Try.ntmps97
    go_wp2
    go_ret
    exact ⟨by rw [hq.out]; rfl, 0, rfl⟩

set_option maxHeartbeats 400000 in
theorem markIntS_any (zs : List Int) (A : Option Addr) (c : Nat) {lo hi : Nat} (k0 : Int) (w : World) (hown : Own w lo hi (.slice A zs.length c) zs) (h0 : 0 ≤ k0) (h1 : k0 + zs.length ≤ 1000000000000) :
    Calls Try.prog 53 #[.slice A zs.length c, .int .i64 k0] w fun e w' => e = .returned (.int .i64 (k0 + zs.length)) ∧ Own w' lo hi (.slice A zs.length c) (fill k0 zs.length) ∧ Fr lo hi w w' ∧ w'.heap.size = w.heap.size := by
  go_enter Try.func53, Try.ntmps53
  go_wp2
  go_loopw [1, 5] (fun q i wr => ∃ k : Nat, k ≤ zs.length ∧ i = .int .i64 k ∧ q = .int .i64 (k0 + k) ∧ Own wr lo hi (.slice A zs.length c) (fillTo zs k0 k) ∧ Fr lo hi w wr ∧ wr.heap.size = w.heap.size) (fun _ i _ => zs.length - (intOf i).toNat)
  case atStart => exact ⟨0, Nat.zero_le _, rfl, by simp, by rw [fillTo_zero]; exact hown, Fr.refl _ _ _, rfl⟩
  case round =>
    obtain ⟨k, hk, rfl, rfl, how, hf, hs⟩ := hrel
    have hs2 := Lib.hid hs
    clear hs
    by_cases hlt : k < zs.length
    · have hlen := fillTo_length zs k0 k hk
      obtain ⟨g, c', he, g1, g2, g3, hcell, hfr⟩ := how.at_ (by omega)
      injection he with h2 h3 h4
      subst h2
      have hst := Lib.hid (how.stored (j := k) (k0 + k))
      have hfz := hfr k
      obtain ⟨x, hcd⟩ : ∃ x, wr.cell? ⟨g, k, none⟩ = some (.int .i64 x) := ⟨_, hcell k (by omega)⟩
      have hf2 := Lib.hid (hf.setCell (p := ⟨g, k, none⟩) ⟨g1, g2⟩ (.int .i64 (k0 + k)))
      clear hcell hfr h3 h4 how hown hf hlen
      go_wp2
      go_roundw
      case rel => exact ⟨k + 1, by omega, by go_num, by rw [show k0 + ((k + 1 : Nat) : Int) = k0 + k + 1 from by omega], by rw [← fillTo_succ zs k0 k hlt]; exact hst.out, hf2.out, by simpa [World.setCell] using hs2.out⟩
      case measure => simp [intOf]; omega
    · have hkk : k = zs.length := by omega
      subst hkk
      rw [fillTo_all] at how
      have how2 := Lib.hid how
      clear how hown
      go_wp2
      go_ret
      exact ⟨rfl, how2.out, hf, hs2.out⟩

set_option maxHeartbeats 400000 in
theorem heldIntS_any (n : Nat) (A : Option Addr) (c : Nat) {lo hi : Nat} (k0 : Int) (w : World) (hr : Rd w lo hi A (fill k0 n)) (h0 : 0 ≤ k0) (h1 : k0 + n ≤ 1000000000000) :
    Calls Try.prog 54 #[.slice A n c, .int .i64 k0] w fun e w' => e = .returned (.int .i64 (k0 + n)) ∧ w = w' := by
  go_enter Try.func54, Try.ntmps54
  go_wp2
  go_loop [1, 5] (fun q i => ∃ k : Nat, k ≤ n ∧ i = .int .i64 k ∧ q = .int .i64 (k0 + k)) (fun _ i => n - (intOf i).toNat)
  case atStart => exact ⟨0, Nat.zero_le _, rfl, by simp⟩
  case round =>
    obtain ⟨k, hk, rfl, rfl⟩ := hrel
    by_cases hlt : k < n
    · obtain ⟨b, off, rfl, _, _, hc⟩ := hr (by rw [fill_length]; omega)
      have hck := hc k (by rw [fill_length]; omega)
      rw [fill_at] at hck
      clear hc hr
      have ht : (k0 + (k : Int) != k0 + (k : Int)) = false := by simp
      go_wp2
      go_round
      case rel => exact ⟨k + 1, by omega, by go_num, by rw [show k0 + ((k + 1 : Nat) : Int) = k0 + k + 1 from by omega]⟩
      case measure => simp [intOf]; omega
    · have hkk : k = n := by omega
      subst hkk
      go_wp2
      go_ret
      exact ⟨rfl, rfl⟩

end Go.Proofs.Yteajjbfecpffeaa
