/-
  Contracts of SecretText, in the reference and in the program. The conditions are bounds on lengths, room for what is read, and the library's table.
-/
import Derived.Test.YtjhbffndiaggmaaGreatDoorZLJoinN
import Derived.Test.YtjhbffndiaggmaaGreatDoorZLIsSecret
import Derived.Deep.RegionHeld3
namespace Go.Proofs.YtjhbffndiaggmaaGreatDoor
open Go.RowKit Go.ChangeShapes Go.WideShapes
set_option linter.unusedVariables false
set_option linter.unusedSimpArgs false

def sa (y : List Int) : List UInt8 := joinS y [43] ++ [58]
def sb (y z : List Int) : List UInt8 := sa y ++ joinS z [32]
def stL (y z : List Int) : List UInt8 := if scB y z then sb y z else []
theorem stL_no {y z : List Int} (h : scB y z = false) : stL y z = [] := by simp [stL, h]
theorem stL_yes {y z : List Int} (h : scB y z = true) : stL y z = sb y z := by simp [stL, h]
theorem sc_factsT {y z : List Int} (h : scB y z = true) : z.length ≤ 60 ∧ (∀ n ∈ z, 1 ≤ n ∧ n ≤ 60) ∧ ∀ n ∈ y, 0 ≤ n ∧ n ≤ 59 := by
  simp only [scB, Bool.and_eq_true, decide_eq_true_eq] at h
  obtain ⟨h1, h2, _, h4, _⟩ := h
  have h2' := allB_iff.1 h2
  have h4' := allB_iff.1 h4
  refine ⟨h1, fun n hn => ?_, fun n hn => ?_⟩
  · obtain ⟨k, hk, rfl⟩ := List.getElem_of_mem hn; exact h2' k hk
  · obtain ⟨k, hk, rfl⟩ := List.getElem_of_mem hn; exact h4' k hk
/-- the text of the first k pages -/
def lineP (l : List Int) (k : Nat) : List UInt8 := joinS (l.take k) [43]
theorem lineP_zero (l : List Int) : lineP l 0 = [] := rfl
theorem lineP_one {l : List Int} (h : 0 < l.length) : lineP l 1 = numS l[0] := by
  unfold lineP; rw [joinS_succ h, if_pos rfl]
theorem lineP_succ {l : List Int} {k : Nat} (h : k < l.length) (h0 : k ≠ 0) : lineP l (k + 1) = lineP l k ++ [43] ++ numS l[k] := by
  unfold lineP; rw [joinS_succ h, if_neg h0, List.append_assoc]
theorem lineP_len {l : List Int} (h : ∀ n ∈ l, 0 ≤ n ∧ n ≤ 59) (k : Nat) : (lineP l k).length ≤ 20 * l.length := by
  unfold lineP
  refine Nat.le_trans (joinS_len (fun n hn => ?_) (by simp)) (by rw [List.length_take]; omega)
  have := h n (List.mem_of_mem_take hn)
  omega
set_option maxRecDepth 100000 in
set_option maxHeartbeats 4000000 in
theorem scText_any (y z : List Int) (A : Option Addr) (c : Nat) (B : Option Addr) (d : Nat) {lo hi lo' hi' : Nat} (w : World) (hr0 : Rd w lo hi A y) (hz0 : Rd w lo' hi' B z) (hl : y.length ≤ 1048576) (hg : scB y z = true) :
    Calls Tryz.prog 121 #[.agg #[.slice A y.length c, .slice B z.length d]] w fun e w' => e = .returned (.string (str (sb y z))) ∧ Below w.heap.size w w' := by
  obtain ⟨hz60, hzb, hyb⟩ := sc_factsT hg
  obtain ⟨W, hW⟩ : ∃ W, W = w.alloc (.cells #[.slice A y.length c, .slice B z.length d] 53) := ⟨_, rfl⟩
  have sW : W.heap.size = w.heap.size + 1 := by rw [hW]; simp
  have hbk : Bk W w.heap.size 53 #[.slice A y.length c, .slice B z.length d] := by rw [hW]; exact Bk.new w _ _
  have hr : Rd W 0 w.heap.size A y := by rw [hW]; exact hr0.std.alloc _
  have hz : Rd W 0 w.heap.size B z := by rw [hW]; exact hz0.std.alloc _
  have hBW : Below w.heap.size w W := by rw [hW]; exact (Below.refl _ _).alloc (Nat.le_refl _) _
  have y0 := hbk.cell 0
  have y1 := hbk.cell 1
  simp at y0 y1
  have hybH := Lib.hid hyb
  have hzbH := Lib.hid hzb
  have hjl := joinS_len (l := z) (sep := [32]) (fun n hn => by have := hzb n hn; omega) (by simp)
  clear hr0 hz0 hyb hzb hg
  go_enter Tryz.func121, Tryz.ntmps121
  go_wp2_with fail
  rw [← hW]
  clear hW
  go_wp2_with fail
  go_loopw [3, 4, 5, 9] (fun s _ _ i wr => ∃ k : Nat, k ≤ y.length ∧ i = .int .i64 k ∧ s = .string (str (lineP y k)) ∧ Below W.heap.size W wr) (fun _ _ _ i _ => y.length - (intOf i).toNat)
  case atStart => exact ⟨0, Nat.zero_le _, rfl, rfl, Below.refl _ _⟩
  case round =>
    obtain ⟨k, hk, rfl, rfl, hbr⟩ := hrel
    have hszr := hbr.size
    have hlen := lineP_len hybH.out k
    by_cases hlt : k < y.length
    · obtain ⟨b0, off, rfl, _, _, hc⟩ := (hr.st hbr) (by omega)
      have x0 := hc k hlt
      obtain ⟨hn0, hn1⟩ := hybH.out y[k] (List.getElem_mem hlt)
      have hnl := numS_len hn0 (by omega)
      clear hc y0 y1
      by_cases h0 : k ≤ 0
      · have hz : str (lineP y k) ++ str (numS y[k]) = str (lineP y (k + 1)) := by
          obtain rfl : k = 0 := by omega
          rw [str_append, lineP_one hlt, lineP_zero]; rfl
        have hs1 : (str (lineP y k)).size + (str (numS y[k])).size ≤ 9223372036854775807 := by rw [str_size, str_size]; omega
        have hd0 : decide ((k : Int) > 0) = false := by simp; omega
        have hd1 : decide (0 < k) = false := by simp; omega
        go_wp2_with fail
        (with_reducible refine (l1Num_n y[k] _ hn0 (by omega)).mono ?_)
        rintro e w2 ⟨rfl, hb2⟩
        have hB2 := Lib.hid (hbr.trans (hb2.mono hszr))
        clear hb2 hbr
        go_wp2_with fail
        go_roundw
        case rel => exact ⟨k + 1, by omega, by go_num, rfl, hB2.out⟩
        case measure => simp [intOf]; omega
      · have hst := lineP_succ hlt (show k ≠ 0 by omega)
        have hz1 : str (lineP y k) ++ { data := #[43] } = str (lineP y k ++ [43]) := by show str (lineP y k) ++ str [43] = _; rw [str_append]
        have hz2 : str (lineP y k ++ [43]) ++ str (numS y[k]) = str (lineP y (k + 1)) := by rw [str_append, hst]
        have hs1 : (str (lineP y k)).size + 1 ≤ 9223372036854775807 := by rw [str_size]; omega
        have hs3 : (str (lineP y k ++ [43])).size + (str (numS y[k])).size ≤ 9223372036854775807 := by rw [str_size, str_size]; simp; omega
        have hk0 : 0 < k := by omega
        clear hst h0
        go_wp2_with fail
        (with_reducible refine (l1Num_n y[k] _ hn0 (by omega)).mono ?_)
        rintro e w2 ⟨rfl, hb2⟩
        have hB2 := Lib.hid (hbr.trans (hb2.mono hszr))
        clear hb2 hbr
        go_wp2_with fail
        go_roundw
        case rel => exact ⟨k + 1, by omega, by go_num, rfl, hB2.out⟩
        case measure => simp [intOf]; omega
    · obtain rfl : k = y.length := by omega
      have hfin : lineP y y.length = joinS y [43] := by unfold lineP; rw [List.take_length]
      have u1 : str (lineP y y.length) ++ { data := #[58] } = str (sa y) := by rw [hfin]; show str (joinS y [43]) ++ str [58] = _; rw [str_append]; rfl
      have u2 : str (sa y) ++ str (joinS z [32]) = str (sb y z) := by rw [str_append]; rfl
      have e1 : (sa y).length = (lineP y y.length).length + 1 := by rw [hfin]; simp [sa]
      have u3 : (str (lineP y y.length)).size + 1 ≤ 9223372036854775807 := by rw [str_size]; omega
      have u4 : (str (sa y)).size + (str (joinS z [32])).size ≤ 9223372036854775807 := by rw [str_size, str_size]; omega
      have v1 := (hbk.st hbr).cell 1
      simp at v1
      have hzr := hz.st hbr
      have hB := hBW.trans (hbr.mono (by omega))
      have hszr2 := hB.size
      clear hfin e1 y0 y1 hbr
      go_wp2_with fail
      (with_reducible refine (sgLine_any z B d _ hzr (by omega) (fun n hn => by have := hzbH.out n hn; omega)).mono ?_)
      rintro e w3 ⟨rfl, hb3⟩
      have hB3 := hB.trans (hb3.mono hszr2)
      go_wp2_with fail
      go_ret
      exact ⟨rfl, hB3⟩
theorem scGood_wt (y1 : List Int) (A1 : Option Addr) (c1 : Nat) (z1 : List Int) (B1 : Option Addr) (d1 : Nat) {l h l' h' : Nat} (w : World) (hr1 : Rd w l h A1 y1) (hr2 : Rd w l' h' B1 z1) (hl1 : y1.length ≤ 1048576) (hl2 : z1.length ≤ 1048576) (hcap : y1.length ≤ c1) (v : Bool) (hv : scB y1 z1 = v) :
    Calls Tryz.prog 117 #[.agg #[.slice A1 y1.length c1, .slice B1 z1.length d1]] w fun e w' => e = .returned (.bool v) ∧ Below w.heap.size w w' := by
  subst hv; exact scGood_any y1 A1 c1 z1 B1 d1 w hr1 hr2 hl1 hl2 hcap
set_option maxRecDepth 100000 in
theorem sSecretText_any (y1 : List Int) (A1 : Option Addr) (c1 : Nat) (z1 : List Int) (B1 : Option Addr) (d1 : Nat) {l h l' h' : Nat} (w : World) (hr1 : Rd w l h A1 y1) (hr2 : Rd w l' h' B1 z1) (hl1 : y1.length ≤ 1048576) (hl2 : z1.length ≤ 1048576) (hcap : y1.length ≤ c1) :
    Calls Tryz.prog 40 #[.agg #[.slice A1 y1.length c1, .slice B1 z1.length d1]] w fun e w' => e = .returned (.tuple #[.string (str (stL y1 z1)), .bool (scB y1 z1)]) ∧ Below w.heap.size w w' := by
  have bk := Bk.new w 53 #[.slice A1 y1.length c1, .slice B1 z1.length d1]
  cases q : scB y1 z1 with
  | false =>
    rw [stL_no q]
    go_enter Tryz.func40, Tryz.ntmps40
    go_wp2_with (go_at_call 117; (with_reducible refine (scGood_wt y1 A1 c1 z1 B1 d1 _ (hr1.alloc _) (hr2.alloc _) hl1 hl2 hcap _ q).mono ?_); rintro e w1 ⟨rfl, hb1⟩)
    have hB := ((Below.refl w.heap.size w).alloc (Nat.le_refl _) _).trans (hb1.mono (by simp))
    go_ret2
    exact ⟨rfl, hB⟩
  | true =>
    rw [stL_yes q]
    have qH := Lib.hid q
    go_enter Tryz.func40, Tryz.ntmps40
    go_wp2_with fail
    (with_reducible refine (scGood_wt y1 A1 c1 z1 B1 d1 _ (hr1.alloc _) (hr2.alloc _) hl1 hl2 hcap _ q).mono ?_)
    rintro e w1 ⟨rfl, hb1⟩
    have s1 : w.heap.size + 1 ≤ w1.heap.size := by have := hb1.size; simpa using this
    have bk1 := bk.st hb1
    have y0 := bk1.cell 0
    have y1' := bk1.cell 1
    simp at y0 y1'
    have hra := (hr1.alloc (.cells #[.slice A1 y1.length c1, .slice B1 z1.length d1] 53)).st hb1
    have hrb := (hr2.alloc (.cells #[.slice A1 y1.length c1, .slice B1 z1.length d1] 53)).st hb1
    have hB1 := ((Below.refl w.heap.size w).alloc (Nat.le_refl _) (.cells #[.slice A1 y1.length c1, .slice B1 z1.length d1] 53)).trans (hb1.mono (by simp))
    clear q hb1 bk bk1
    go_wp2_with fail
    (with_reducible refine (scText_any y1 z1 A1 c1 B1 d1 _ hra hrb hl1 qH.out).mono ?_)
    rintro e w2 ⟨rfl, hb2⟩
    have hB := hB1.trans (hb2.mono (by omega))
    go_wp2_with fail
    go_ret2
    exact ⟨rfl, hB⟩
theorem jn_plus (l : List Int) (A : Option Addr) (c : Nat) {lo hi : Nat} (w : World) (hr : Rd w lo hi A l) (hl : l.length ≤ 1048576) (hb : ∀ n ∈ l, 0 ≤ n ∧ n ≤ 1000000000000000000) (hp : Pow w) :
    Calls Tryz.prog 120 #[.slice A l.length c, .string { data := #[43] }] w fun e w' => e = .returned (.string (str (joinS l [43]))) ∧ Below w.heap.size w w' :=
  joinNumbers_any l A c [43] w hr hl hb hp (by simp)
theorem jn_blank (l : List Int) (A : Option Addr) (c : Nat) {lo hi : Nat} (w : World) (hr : Rd w lo hi A l) (hl : l.length ≤ 1048576) (hb : ∀ n ∈ l, 0 ≤ n ∧ n ≤ 1000000000000000000) (hp : Pow w) :
    Calls Tryz.prog 120 #[.slice A l.length c, .string { data := #[32] }] w fun e w' => e = .returned (.string (str (joinS l [32]))) ∧ Below w.heap.size w w' :=
  joinNumbers_any l A c [32] w hr hl hb hp (by simp)
theorem iIsSecret_wt (y1 : List Int) (A1 : Option Addr) (c1 : Nat) (z1 : List Int) (B1 : Option Addr) (d1 : Nat) {l h l' h' : Nat} (w : World) (hr1 : Rd w l h A1 y1) (hr2 : Rd w l' h' B1 z1) (hl1 : y1.length ≤ 1048576) (hl2 : z1.length ≤ 1048576) (v : Bool) (hv : scB y1 z1 = v) :
    Calls Tryz.prog 49 #[.agg #[.slice A1 y1.length c1, .slice B1 z1.length d1]] w fun e w' => e = .returned (.bool v) ∧ Below w.heap.size w w' := by
  subst hv; exact iIsSecret_any y1 A1 c1 z1 B1 d1 w hr1 hr2 hl1 hl2
set_option maxRecDepth 100000 in
set_option maxHeartbeats 4000000 in
theorem iSecretText_any (y1 : List Int) (A1 : Option Addr) (c1 : Nat) (z1 : List Int) (B1 : Option Addr) (d1 : Nat) {l h l' h' : Nat} (w : World) (hr1 : Rd w l h A1 y1) (hr2 : Rd w l' h' B1 z1) (hl1 : y1.length ≤ 1048576) (hl2 : z1.length ≤ 1048576) (hP : Pow w) :
    Calls Tryz.prog 39 #[.agg #[.slice A1 y1.length c1, .slice B1 z1.length d1]] w fun e w' => e = .returned (.tuple #[.string (str (stL y1 z1)), .bool (scB y1 z1)]) ∧ Below w.heap.size w w' := by
  have bk := Bk.new w 53 #[.slice A1 y1.length c1, .slice B1 z1.length d1]
  cases q : scB y1 z1 with
  | false =>
    rw [stL_no q]
    go_enter Tryz.func39, Tryz.ntmps39
    go_wp2_with (go_at_call 49; (with_reducible refine (iIsSecret_wt y1 A1 c1 z1 B1 d1 _ (hr1.alloc _) (hr2.alloc _) hl1 hl2 _ q).mono ?_); rintro e w1 ⟨rfl, hb1⟩)
    have hB := ((Below.refl w.heap.size w).alloc (Nat.le_refl _) _).trans (hb1.mono (by simp))
    go_ret2
    exact ⟨rfl, hB⟩
  | true =>
    rw [stL_yes q]
    obtain ⟨hz60, hzb, hyb⟩ := sc_factsT q
    have hzb2 := Lib.hid (show ∀ n ∈ z1, 0 ≤ n ∧ n ≤ 1000000000000000000 from fun n hn => by have := hzb n hn; omega)
    have hyb2 := Lib.hid (show ∀ n ∈ y1, 0 ≤ n ∧ n ≤ 1000000000000000000 from fun n hn => by have := hyb n hn; omega)
    have hjl := joinS_len (l := z1) (sep := [32]) (fun n hn => by have := hzb n hn; omega) (by simp)
    have hjy := joinS_len (l := y1) (sep := [43]) (fun n hn => by have := hyb n hn; omega) (by simp)
    have u1 : str (joinS y1 [43]) ++ { data := #[58] } = str (sa y1) := by show str (joinS y1 [43]) ++ str [58] = _; rw [str_append]; rfl
    have u2 : str (sa y1) ++ str (joinS z1 [32]) = str (sb y1 z1) := by rw [str_append]; rfl
    have e1 : (sa y1).length = (joinS y1 [43]).length + 1 := by simp [sa]
    have u3 : ¬ (9223372036854775807 < (str (joinS y1 [43])).size + 1) := by rw [str_size]; omega
    have u4 : ¬ (9223372036854775807 < (str (sa y1)).size + (str (joinS z1 [32])).size) := by rw [str_size, str_size]; omega
    clear e1 hzb hyb
    go_enter Tryz.func39, Tryz.ntmps39
    go_wp2_with fail
    (with_reducible refine (iIsSecret_wt y1 A1 c1 z1 B1 d1 _ (hr1.alloc _) (hr2.alloc _) hl1 hl2 _ q).mono ?_)
    rintro e w1 ⟨rfl, hb1⟩
    have s1 : w.heap.size + 1 ≤ w1.heap.size := by have := hb1.size; simpa using this
    have bk1 := bk.st hb1
    have y0 := bk1.cell 0
    have y1' := bk1.cell 1
    simp at y0 y1'
    have hra := (hr1.alloc (.cells #[.slice A1 y1.length c1, .slice B1 z1.length d1] 53)).st hb1
    have hrb := (hr2.alloc (.cells #[.slice A1 y1.length c1, .slice B1 z1.length d1] 53)).st hb1
    have hPW := (hP.alloc (.cells #[.slice A1 y1.length c1, .slice B1 z1.length d1] 53)).st hb1
    have hB1 := ((Below.refl w.heap.size w).alloc (Nat.le_refl _) (.cells #[.slice A1 y1.length c1, .slice B1 z1.length d1] 53)).trans (hb1.mono (by simp))
    clear q hb1 bk bk1
    go_wp2_with fail
    go_region_held3 (fun w' => w'.cell? ⟨w.heap.size, 0, none⟩ = some (.slice A1 y1.length c1) ∧ w'.cell? ⟨w.heap.size, 1, none⟩ = some (.slice B1 z1.length d1))
      (first | ((try go_split_ands); (try dsimp only); (repeat' apply And.intro) <;> (first | with_reducible assumption | ((with_reducible refine (hc5 _ _ ?_).trans ?_) <;> first | with_reducible assumption | omega | exact y0 | exact y1' | (simp <;> omega)) | ((with_reducible refine (hc4 _ _ ?_).trans ?_) <;> first | with_reducible assumption | omega | exact y0 | exact y1' | (simp <;> omega)) | exact y0 | exact y1')))
      (first
        | (go_at_call 120; ((with_reducible refine (jn_plus y1 A1 c1 _ hra.drew hl1 hyb2.out hPW.drew).mono ?_); rintro e w4 ⟨rfl, hb4⟩; (have hc4 := (bcell hb4).1); (have s4 : w1.heap.size ≤ w4.heap.size := hb4.size); (have hP4 := hPW.drew.st hb4); (have hr4 := hrb.drew.st hb4)))
        | (go_at_call 120; ((with_reducible refine (jn_blank z1 B1 d1 _ hr4 (by omega) hzb2.out hP4).mono ?_); rintro e w5 ⟨rfl, hb5⟩; (have hc5 := (bcell hb5).1); (have s5 : w4.heap.size ≤ w5.heap.size := hb5.size))))
    have hB : Below w.heap.size w w5 := ((hB1.drew).trans (hb4.mono (by show w.heap.size ≤ w1.heap.size; omega))).trans (hb5.mono (by omega))
    clear hb4 hb5 hc4 hc5
    go_wp2_with fail
    go_ret2
    exact ⟨rfl, hB⟩
end Go.Proofs.YtjhbffndiaggmaaGreatDoor
