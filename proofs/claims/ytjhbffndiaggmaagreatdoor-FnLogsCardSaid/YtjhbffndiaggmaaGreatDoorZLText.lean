/-
  Contracts of the reference's decimal numbers and of lines of numbers. The conditions are bounds.
-/
import Derived.Test.YtjhbffndiaggmaaGreatDoorPureT
import Derived.Test.YtjhbffndiaggmaaGreatDoorBL1
import Derived.Deep.RegionHeld3
import Derived.Deep.RegionLaw
import Derived.Laws.IdiomStrings
import Derived.IntWalk
namespace Go.Proofs.YtjhbffndiaggmaaGreatDoor
open Go.RowKit Go.ChangeShapes Go.WideShapes
set_option linter.unusedVariables false
set_option linter.unusedSimpArgs false

/-- the byte of a digit; of the last one of a number -/
def dig1 (n : Int) : UInt8 := UInt8.ofNat (48 + n.toNat)
def dgt (n : Int) : UInt8 := UInt8.ofNat (48 + (n % 10).toNat)
/-- one byte as a text -/
theorem conv_digit (d : Int) (h0 : 0 ≤ d) (h1 : d < 256) (W : World) (g c : Nat) (hc : W.cell? ⟨g, 0, none⟩ = some (.int .u8 d)) :
    (convert 22 9 (.slice (some ⟨g, 0, none⟩) 1 c)).run Tryz.prog W = .ok (.string (str [UInt8.ofNat d.toNat])) W := by
  have h := run_convert_bytes_back (P := Tryz.prog) W 22 9 5 ⟨g, 0, none⟩ c [UInt8.ofNat d.toNat] Tryz.underlying22 Tryz.underlying5 Tryz.underlying9 (fun j hj => by
    obtain rfl : j = 0 := by simpa using hj
    have e : ((UInt8.ofNat d.toNat).toNat : Int) = d := by
      rw [UInt8.toNat_ofNat']
      omega
    simp only [List.getElem_cons_zero, e]
    exact hc)
  exact h
set_option maxRecDepth 100000 in
set_option maxHeartbeats 2000000 in
theorem l1Num_any (k : Nat) : ∀ (n : Int) (w : World), 0 ≤ n → n < 10 ^ (k + 1) → n ≤ 9223372036854775807 →
    Calls Tryz.prog 146 #[.int .i64 n] w fun e w' => e = .returned (.string (str (numS n))) ∧ Below w.heap.size w w' := by
  induction k with
  | zero =>
    intro n w h0 h1 h2
    have h3 : n < 10 := by simpa using h1
    have hq := Lib.hid (numS_lt h0 h3)
    have hcv := conv_digit (48 + n) (by omega) (by omega) (w.alloc (.cells #[.int .u8 (48 + n)] 5)) w.heap.size 1 (Bk.new w _ _ |>.cell 0)
    have e48 : (48 + n).toNat = 48 + n.toNat := by omega
    rw [e48, ← hq.out] at hcv
    clear h1 e48
    go_enter Tryz.func146, Tryz.ntmps146
    go_wp2_with fail
    go_ret
    exact ⟨rfl, (Below.refl _ _).alloc (Nat.le_refl _) _⟩
  | succ k ih =>
    intro n w h0 h1 h2
    by_cases h3 : n < 10
    · have hq := Lib.hid (numS_lt h0 h3)
      have hcv := conv_digit (48 + n) (by omega) (by omega) (w.alloc (.cells #[.int .u8 (48 + n)] 5)) w.heap.size 1 (Bk.new w _ _ |>.cell 0)
      have e48 : (48 + n).toNat = 48 + n.toNat := by omega
      rw [e48, ← hq.out] at hcv
      clear h1 ih e48
      go_enter Tryz.func146, Tryz.ntmps146
      go_wp2_with fail
      go_ret
      exact ⟨rfl, (Below.refl _ _).alloc (Nat.le_refl _) _⟩
    · have hq := Lib.hid (numS_ge (show 10 ≤ n by omega))
      have h4 : n / 10 < 10 ^ (k + 1) := by
        have : (10 : Int) ^ (k + 1 + 1) = 10 ^ (k + 1) * 10 := by rw [Int.pow_succ]
        omega
      have h4H := Lib.hid h4
      have hd : decide (n < 10) = false := by simpa using h3
      have h5 : 0 ≤ n / 10 := by omega
      have h6 : n / 10 ≤ 9223372036854775807 := by omega
      have hd0 : 0 ≤ 48 + n % 10 ∧ 48 + n % 10 < 256 := by omega
      have hq' : numS n = numS (n / 10) ++ [dgt n] := hq.out
      have hlen := numS_len h5 h6
      have hns : ¬ (9223372036854775807 < (str (numS (n / 10))).size + (str [dgt n]).size) := by rw [str_size, str_size]; simp; omega
      have hns' : ¬ ((9223372036854775807 : Int) < ((str (numS (n / 10))).size : Int) + ((str [dgt n]).size : Int)) := by rw [str_size, str_size]; simp; omega
      have hj : str (numS (n / 10)) ++ str [dgt n] = str (numS n) := by rw [str_append, hq']
      have hcv : ∀ (W : World) (g : Nat), W.cell? ⟨g, 0, none⟩ = some (.int .u8 (48 + n % 10)) → (convert 22 9 (.slice (some ⟨g, 0, none⟩) 1 1)).run Tryz.prog W = .ok (.string (str [dgt n])) W := fun W g hc => by
        have e48 : (48 + n % 10).toNat = 48 + (n % 10).toNat := by omega
        have h := conv_digit (48 + n % 10) hd0.1 hd0.2 W g 1 hc
        rw [e48] at h
        exact h
      have w1 : IntKind.i64.wrap (48 + n % 10) = 48 + n % 10 := IntWalk.i64_in _ (by omega)
      have w2 : IntKind.u8.wrap (48 + n % 10) = 48 + n % 10 := IntWalk.u8_in _ (by omega)
      have w3 : IntKind.i64.wrap (n.tdiv 10) = n / 10 := by
        rw [Int.tdiv_eq_ediv_of_nonneg h0]
        exact IntWalk.i64_in _ (by omega)
      have w4 : n.tmod 10 = n % 10 := Int.tmod_eq_emod_of_nonneg h0
      clear h1 h4 hd0 hlen hq'
      go_enter Tryz.func146, Tryz.ntmps146
      go_wp2_with fail
      go_region_law (first
        | (go_simp; (go_at_call 146; ((with_reducible refine (ih (n / 10) _ h5 h4H.out h6).mono ?_); rintro e w5 ⟨rfl, hb5⟩; (have hc5 := (bcell hb5).1); (try (have c5 := ((Bk.new w 5 #[.int .u8 (48 + n % 10)]).drew.st hb5).cell 0)); (try simp at c5)))))
      all_goals
        clear hc5 hns hns' hj hcv w1 w2 w3 w4
        go_wp2_with fail
        go_ret
        first
          | exact ⟨rfl, (((Below.refl w.heap.size w).drew).trans (hb5.mono (Nat.le_refl _))).alloc (by have := hb5.size; simpa using this) _⟩
          | exact ⟨rfl, ((((Below.refl w.heap.size w).alloc (Nat.le_refl _) _).drew).trans (hb5.mono (by simp)))⟩
theorem l1Num_n (n : Int) (w : World) (h0 : 0 ≤ n) (h1 : n ≤ 1000000000000000000) :
    Calls Tryz.prog 146 #[.int .i64 n] w fun e w' => e = .returned (.string (str (numS n))) ∧ Below w.heap.size w w' :=
  l1Num_any 18 n w h0 (by omega) (by omega)
/-- the text of the first k numbers of a line -/
def lineS (l : List Int) (k : Nat) : List UInt8 := joinS (l.take k) [32]
theorem lineS_zero (l : List Int) : lineS l 0 = [] := rfl
theorem lineS_one {l : List Int} (h : 0 < l.length) : lineS l 1 = numS l[0] := by
  unfold lineS; rw [joinS_succ h, if_pos rfl]
theorem lineS_succ {l : List Int} {k : Nat} (h : k < l.length) (h0 : k ≠ 0) : lineS l (k + 1) = lineS l k ++ [32] ++ numS l[k] := by
  unfold lineS; rw [joinS_succ h, if_neg h0, List.append_assoc]
theorem lineS_len {l : List Int} (h : ∀ n ∈ l, 0 ≤ n ∧ n ≤ 1000000000000000000) (k : Nat) : (lineS l k).length ≤ 20 * l.length := by
  unfold lineS
  refine Nat.le_trans (joinS_len (fun n hn => ?_) (by simp)) (by rw [List.length_take]; omega)
  have := h n (List.mem_of_mem_take hn)
  omega
set_option maxRecDepth 100000 in
set_option maxHeartbeats 2000000 in
theorem sgLine_any (l : List Int) (A : Option Addr) (c : Nat) {lo hi : Nat} (w : World) (hr0 : Rd w lo hi A l) (hl : l.length ≤ 1048576) (hb : ∀ n ∈ l, 0 ≤ n ∧ n ≤ 1000000000000000000) :
    Calls Tryz.prog 160 #[.slice A l.length c] w fun e w' => e = .returned (.string (str (joinS l [32]))) ∧ Below w.heap.size w w' := by
  have hr := hr0.std
  have hbH := Lib.hid hb
  clear hr0 hb
  go_enter Tryz.func160, Tryz.ntmps160
  go_wp2_with fail
  go_loopw [3, 4, 5, 8] (fun s _ _ i wr => ∃ k : Nat, k ≤ l.length ∧ i = .int .i64 k ∧ s = .string (str (lineS l k)) ∧ Below w.heap.size w wr) (fun _ _ _ i _ => l.length - (intOf i).toNat)
  case atStart => exact ⟨0, Nat.zero_le _, rfl, rfl, Below.refl _ _⟩
  case round =>
    obtain ⟨k, hk, rfl, rfl, hbr⟩ := hrel
    have hszr := hbr.size
    by_cases hlt : k < l.length
    · obtain ⟨b0, off, rfl, _, _, hc⟩ := (hr.st hbr) (by omega)
      have x0 := hc k hlt
      have hnk := hbH.out l[k] (List.getElem_mem hlt)
      obtain ⟨hn0, hn1⟩ := hnk
      have hlen := lineS_len hbH.out k
      have hnl := numS_len hn0 (by omega)
      clear hc
      by_cases h0 : k ≤ 0
      · have hz : str (lineS l k) ++ str (numS l[k]) = str (lineS l (k + 1)) := by
          obtain rfl : k = 0 := by omega
          rw [str_append, lineS_one hlt, lineS_zero]; rfl
        have hs1 : (str (lineS l k)).size + (str (numS l[k])).size ≤ 9223372036854775807 := by rw [str_size, str_size]; omega
        have hd0 : decide ((k : Int) > 0) = false := by simp; omega
        have hd1 : decide (0 < k) = false := by simp; omega
        go_wp2_with fail
        (with_reducible refine (l1Num_n l[k] _ hn0 hn1).mono ?_)
        rintro e w2 ⟨rfl, hb2⟩
        have hB2 := Lib.hid (hbr.trans (hb2.mono hszr))
        clear hb2 hbr
        go_wp2_with fail
        go_roundw
        case rel => exact ⟨k + 1, by omega, by go_num, rfl, hB2.out⟩
        case measure => simp [intOf]; omega
      · have hst := lineS_succ hlt (show k ≠ 0 by omega)
        have hz1 : str (lineS l k) ++ { data := #[32] } = str (lineS l k ++ [32]) := by show str (lineS l k) ++ str [32] = _; rw [str_append]
        have hz2 : str (lineS l k ++ [32]) ++ str (numS l[k]) = str (lineS l (k + 1)) := by rw [str_append, hst]
        have hs1 : (str (lineS l k)).size + 1 ≤ 9223372036854775807 := by rw [str_size]; omega
        have hs3 : (str (lineS l k ++ [32])).size + (str (numS l[k])).size ≤ 9223372036854775807 := by rw [str_size, str_size]; simp; omega
        have hk0 : 0 < k := by omega
        clear hst h0
        go_wp2_with fail
        (with_reducible refine (l1Num_n l[k] _ hn0 hn1).mono ?_)
        rintro e w2 ⟨rfl, hb2⟩
        have hB2 := Lib.hid (hbr.trans (hb2.mono hszr))
        clear hb2 hbr
        go_wp2_with fail
        go_roundw
        case rel => exact ⟨k + 1, by omega, by go_num, rfl, hB2.out⟩
        case measure => simp [intOf]; omega
    · obtain rfl : k = l.length := by omega
      have hfin : lineS l l.length = joinS l [32] := by unfold lineS; rw [List.take_length]
      have hfH := Lib.hid hfin
      clear hfin
      go_wp2_with fail
      go_ret
      exact ⟨by rw [← hfH.out]; rfl, hbr⟩
end Go.Proofs.YtjhbffndiaggmaaGreatDoor
