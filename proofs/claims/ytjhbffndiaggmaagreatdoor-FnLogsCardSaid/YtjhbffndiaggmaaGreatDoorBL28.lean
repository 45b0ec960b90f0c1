/-
  Contracts and plain laws that the walk uses, several texts in one. The conditions are named ahead of each.
-/
import Derived.Test.YtjhbffndiaggmaaGreatDoorBL3
import Derived.Test.YtjhbffndiaggmaaGreatDoorPureR
import Derived.IntWalk
import Derived.Test.YtjhbffndiaggmaaGreatDoorBL18

/-
  Contracts of the reference's reading of numbers. The conditions are a bound on a length.
-/
namespace Go.Proofs.YtjhbffndiaggmaaGreatDoor
open Go.RowKit Go.ChangeShapes Go.WideShapes
set_option linter.unusedVariables false
set_option linter.unusedSimpArgs false

def digB (x : UInt8) : Bool := decide (48 ≤ x.toNat ∧ x.toNat ≤ 57)
/-- what kyRead gives -/
def kyR (l : List UInt8) : Int := if l.all digB then valTo l else -1
theorem str_get (l : List UInt8) (k : Nat) (h : k < l.length) (h2 : k < (str l).size) : (str l)[k]'h2 = l[k] := by
  show (l.toArray)[k]'(by simpa using h) = l[k]
  simp
  rfl
theorem all_take_succ {l : List UInt8} {k : Nat} (h : k < l.length) (h1 : (l.take k).all digB = true) (h2 : digB l[k] = true) : (l.take (k + 1)).all digB = true := by
  rw [List.take_succ_eq_append_getElem h, List.all_append, h1]; simp [h2]
theorem all_no {l : List UInt8} {k : Nat} (h : k < l.length) (h2 : digB l[k] = false) : l.all digB = false := by
  rw [List.all_eq_false]
  exact ⟨l[k], List.getElem_mem h, by simp [h2]⟩
theorem valTo_bound {l : List UInt8} : ∀ k, k ≤ l.length → (l.take k).all digB = true → 0 ≤ valTo (l.take k) ∧ valTo (l.take k) < 10 ^ k := by
  intro k
  induction k with
  | zero => intro _ _; simp [valTo]
  | succ k ih =>
    intro hk ha
    rw [List.take_succ_eq_append_getElem (by omega), List.all_append] at ha
    simp only [Bool.and_eq_true] at ha
    obtain ⟨h1, h2⟩ := ih (by omega) ha.1
    have h3 : 48 ≤ (l[k]).toNat ∧ (l[k]).toNat ≤ 57 := by have := ha.2; simpa [digB] using this
    rw [List.take_succ_eq_append_getElem (by omega), valTo_snoc]
    have : (10 : Int) ^ (k + 1) = 10 ^ k * 10 := by rw [Int.pow_succ]
    omega
set_option maxRecDepth 100000 in
set_option maxHeartbeats 2000000 in
theorem kyRead_any (l : List UInt8) (w : World) (hl : l.length ≤ 10) :
    Calls Tryz.prog 105 #[.string (str l)] w fun e w' => e = .returned (.int .i64 (kyR l)) ∧ w' = w := by
  have hszH := Lib.hid (str_size l)
  go_enter Tryz.func105, Tryz.ntmps105
  go_wp2_with fail
  go_loopw [3, 4] (fun n i wr => ∃ k : Nat, k ≤ l.length ∧ i = .int .i64 k ∧ n = .int .i64 (valTo (l.take k)) ∧ (l.take k).all digB = true ∧ wr = w) (fun _ i _ => l.length - (intOf i).toNat)
  case atStart => exact ⟨0, Nat.zero_le _, rfl, rfl, rfl, rfl⟩
  case round =>
    obtain ⟨k, hk, rfl, rfl, hall, rfl⟩ := hrel
    by_cases hlt : k < l.length
    · have hk2 : k < (str l).size := by rw [hszH.out]; exact hlt
      obtain ⟨hv0, hv1⟩ := valTo_bound k hk hall
      have hv2 : valTo (l.take k) < 10000000000 := by
        have h9 := Nat.pow_le_pow_right (n := 10) (by omega) (show k ≤ 10 by omega)
        have h10 : ((10 ^ k : Nat) : Int) = (10 : Int) ^ k := by simp
        omega
      obtain ⟨V, hV⟩ : ∃ V, V = valTo (l.take k) := ⟨_, rfl⟩
      have hget : (str l)[k]'hk2 = l[k] := str_get l k hlt hk2
      cases hd : digB l[k] with
      | true =>
        have h3 : 48 ≤ (l[k]).toNat ∧ (l[k]).toNat ≤ 57 := by simpa [digB] using hd
        have hn := Lib.hid (show valTo (l.take (k + 1)) = 10 * V + (((l[k]).toNat : Int) - 48) by rw [List.take_succ_eq_append_getElem hlt, valTo_snoc, hV]; try rfl)
        have ha := Lib.hid (all_take_succ hlt hall hd)
        rw [← hV] at hv0 hv2
        rw [← hV]
        obtain ⟨X, hX⟩ : ∃ X : Int, X = ((l[k]).toNat : Int) := ⟨_, rfl⟩
        have h3a : 48 ≤ X := by omega
        have h3b : X ≤ 57 := by omega
        have hw1 : wrap64 (10 * V) = 10 * V := IntWalk.wrap64_in _ (by omega)
        have hw2 : wrap64 (10 * V + (X - 48)) = 10 * V + (X - 48) := IntWalk.wrap64_in _ (by omega)
        have hXs := hX.symm
        have hnX := Lib.hid (show valTo (l.take (k + 1)) = 10 * V + (X - 48) by rw [hn.out, hX])
        clear hV hall hd h3 hv1 hX hn
        go_wp2_with fail
        go_roundw
        case rel => exact ⟨k + 1, by omega, by go_num, by rw [hnX.out], ha.out, trivial⟩
        case measure => simp [intOf]; omega
      | false =>
        have hno := Lib.hid (show kyR l = -1 by rw [kyR, all_no hlt hd]; rfl)
        have h3 : ((l[k]).toNat : Int) < 48 ∨ 57 < ((l[k]).toNat : Int) := by
          have : ¬ (48 ≤ (l[k]).toNat ∧ (l[k]).toNat ≤ 57) := by simpa [digB] using hd
          omega
        obtain ⟨X, hX⟩ : ∃ X : Int, X = ((l[k]).toNat : Int) := ⟨_, rfl⟩
        rw [← hX] at h3
        have hXs := hX.symm
        clear hV hall hd hv1 hX
        by_cases h4 : X < 48
        · clear h3
          go_wp2_with fail
          go_ret
          exact ⟨by rw [hno.out]; rfl, rfl⟩
        · have h5 : 57 < X := by omega
          have h6 : 48 ≤ X := by omega
          clear h3 h4
          go_wp2_with fail
          go_ret
          exact ⟨by rw [hno.out]; rfl, rfl⟩
    · obtain rfl : k = l.length := by omega
      have hk2 : ¬ l.length < (str l).size := by rw [hszH.out]; omega
      have hfin := Lib.hid (show kyR l = valTo (l.take l.length) by rw [List.take_length] at hall ⊢; simp [kyR, hall])
      clear hall
      go_wp2_with fail
      go_ret
      exact ⟨by rw [hfin.out]; rfl, rfl⟩
/-- what l1Read gives -/
def l1R (l : List UInt8) : Int := if inB (l.length : Int) 1 6 = true ∧ ¬ (l.getD 0 0 = 48 ∧ 1 < l.length) then kyR l else -1
set_option maxRecDepth 100000 in
set_option maxHeartbeats 2000000 in
theorem l1Read_any (l : List UInt8) (w : World) (hl0 : l.length ≤ 1048576) :
    Calls Tryz.prog 106 #[.string (str l)] w fun e w' => e = .returned (.int .i64 (l1R l)) ∧ w' = w := by
  have hszH := Lib.hid (str_size l)
  cases q : inB ((str l).size : Int) 1 6 with
  | false =>
    have hR : l1R l = -1 := by rw [str_size] at q; simp [l1R, q]
    rw [hR]
    go_enter Tryz.func106, Tryz.ntmps106
    go_wp2_with (go_at_call 104; (with_reducible refine (l1In_u ((str l).size : Int) 1 6 _ _ q).mono ?_); rintro e w1 ⟨rfl, rfl⟩)
    go_ret
    exact ⟨rfl, rfl⟩
  | true =>
    have hq := q
    rw [str_size] at hq
    obtain ⟨hl1, hl6⟩ : 1 ≤ (l.length : Int) ∧ (l.length : Int) ≤ 6 := by simpa [inB] using hq
    have h0 : 0 < l.length := by omega
    have h02 : 0 < (str l).size := by rw [hszH.out]; exact h0
    have hget0 : (str l)[0]'h02 = l[0] := str_get l 0 h0 h02
    have hgD : l.getD 0 0 = l[0] := by simp [List.getD, h0]; rfl
    have hl : l.length ≤ 10 := by omega
    by_cases hz : l[0] = 48 ∧ 1 < l.length
    · have hR : l1R l = -1 := by
        unfold l1R
        rw [if_neg]
        rw [hgD]
        exact fun h => h.2 hz
      rw [hR]
      have hz1 : ((l[0]).toNat : Int) = 48 := by rw [hz.1]; rfl
      have hz2 : 1 < (str l).size := by rw [hszH.out]; exact hz.2
      clear hz hR hgD hq
      go_enter Tryz.func106, Tryz.ntmps106
      go_wp2_with fail
      (with_reducible refine (l1In_u ((str l).size : Int) 1 6 _ _ q).mono ?_)
      rintro e w1 ⟨rfl, rfl⟩
      clear q
      go_wp2_with fail
      go_ret
      exact ⟨rfl, rfl⟩
    · have hLR := Lib.hid (show l1R l = kyR l by
        unfold l1R
        rw [if_pos]
        rw [hgD]
        exact ⟨hq, hz⟩)
      have hzz : ¬ (((l[0]).toNat : Int) = 48 ∧ 1 < (str l).size) := fun h => hz ⟨by
        have h5 : (l[0]).toNat = 48 := by have := h.1; omega
        exact UInt8.toNat_inj.1 h5, by have := h.2; rw [hszH.out] at this; exact this⟩
      obtain ⟨X0, hX0⟩ : ∃ X0 : Int, X0 = ((l[0]).toNat : Int) := ⟨_, rfl⟩
      rw [← hX0] at hzz
      have hX0s := hX0.symm
      clear hz hgD hq hX0
      go_enter Tryz.func106, Tryz.ntmps106
      go_wp2_with fail
      (with_reducible refine (l1In_u ((str l).size : Int) 1 6 _ _ q).mono ?_)
      rintro e w1 ⟨rfl, rfl⟩
      clear q
      by_cases h8 : X0 = 48
      · have h9 : ¬ 1 < (str l).size := fun h => hzz ⟨h8, h⟩
        have h8H := Lib.hid h8
        have h10 : (X0 == 48) = true := by simpa using h8
        clear hzz h8
        go_wp2_with fail
        clear hX0s h9 h10 hget0
        go_loopw [3, 4] (fun n i wr => ∃ k : Nat, k ≤ l.length ∧ i = .int .i64 k ∧ n = .int .i64 (valTo (l.take k)) ∧ (l.take k).all digB = true ∧ wr = w) (fun _ i _ => l.length - (intOf i).toNat)
        case atStart => exact ⟨0, Nat.zero_le _, rfl, rfl, rfl, rfl⟩
        case round =>
          obtain ⟨k, hk, rfl, rfl, hall, rfl⟩ := hrel
          by_cases hlt : k < l.length
          · have hk2 : k < (str l).size := by rw [hszH.out]; exact hlt
            obtain ⟨hv0, hv1⟩ := valTo_bound k hk hall
            have hv2 : valTo (l.take k) < 10000000000 := by
              have h9 := Nat.pow_le_pow_right (n := 10) (by omega) (show k ≤ 10 by omega)
              have h10 : ((10 ^ k : Nat) : Int) = (10 : Int) ^ k := by simp
              omega
            obtain ⟨V, hV⟩ : ∃ V, V = valTo (l.take k) := ⟨_, rfl⟩
            have hget : (str l)[k]'hk2 = l[k] := str_get l k hlt hk2
            cases hd : digB l[k] with
            | true =>
              have h3 : 48 ≤ (l[k]).toNat ∧ (l[k]).toNat ≤ 57 := by simpa [digB] using hd
              have hn := Lib.hid (show valTo (l.take (k + 1)) = 10 * V + (((l[k]).toNat : Int) - 48) by rw [List.take_succ_eq_append_getElem hlt, valTo_snoc, hV]; try rfl)
              have ha := Lib.hid (all_take_succ hlt hall hd)
              rw [← hV] at hv0 hv2
              rw [← hV]
              obtain ⟨X, hX⟩ : ∃ X : Int, X = ((l[k]).toNat : Int) := ⟨_, rfl⟩
              have h3a : 48 ≤ X := by omega
              have h3b : X ≤ 57 := by omega
              have hw1 : wrap64 (10 * V) = 10 * V := IntWalk.wrap64_in _ (by omega)
              have hw2 : wrap64 (10 * V + (X - 48)) = 10 * V + (X - 48) := IntWalk.wrap64_in _ (by omega)
              have hXs := hX.symm
              have hnX := Lib.hid (show valTo (l.take (k + 1)) = 10 * V + (X - 48) by rw [hn.out, hX])
              clear hV hall hd h3 hv1 hX hn
              go_wp2_with fail
              go_roundw
              case rel => exact ⟨k + 1, by omega, by go_num, by rw [hnX.out], ha.out, trivial⟩
              case measure => simp [intOf]; omega
            | false =>
              have hno := Lib.hid (show l1R l = -1 by rw [hLR.out, kyR, all_no hlt hd]; rfl)
              have h3 : ((l[k]).toNat : Int) < 48 ∨ 57 < ((l[k]).toNat : Int) := by
                have : ¬ (48 ≤ (l[k]).toNat ∧ (l[k]).toNat ≤ 57) := by simpa [digB] using hd
                omega
              obtain ⟨X, hX⟩ : ∃ X : Int, X = ((l[k]).toNat : Int) := ⟨_, rfl⟩
              rw [← hX] at h3
              have hXs := hX.symm
              clear hV hall hd hv1 hX
              by_cases h4 : X < 48
              · clear h3
                go_wp2_with fail
                go_ret
                exact ⟨by rw [hno.out]; rfl, rfl⟩
              · have h5 : 57 < X := by omega
                have h6 : 48 ≤ X := by omega
                clear h3 h4
                go_wp2_with fail
                go_ret
                exact ⟨by rw [hno.out]; rfl, rfl⟩
          · obtain rfl : k = l.length := by omega
            have hk2 : ¬ l.length < (str l).size := by rw [hszH.out]; omega
            have hfin := Lib.hid (show l1R l = valTo (l.take l.length) by rw [hLR.out]; rw [List.take_length] at hall ⊢; simp [kyR, hall])
            clear hall
            go_wp2_with fail
            go_ret
            exact ⟨by rw [hfin.out]; rfl, rfl⟩
      · have h10 : (X0 == 48) = false := by simpa using h8
        clear hzz
        go_wp2_with fail
        clear hX0s h10 hget0
        go_loopw [3, 4] (fun n i wr => ∃ k : Nat, k ≤ l.length ∧ i = .int .i64 k ∧ n = .int .i64 (valTo (l.take k)) ∧ (l.take k).all digB = true ∧ wr = w) (fun _ i _ => l.length - (intOf i).toNat)
        case atStart => exact ⟨0, Nat.zero_le _, rfl, rfl, rfl, rfl⟩
        case round =>
          obtain ⟨k, hk, rfl, rfl, hall, rfl⟩ := hrel
          by_cases hlt : k < l.length
          · have hk2 : k < (str l).size := by rw [hszH.out]; exact hlt
            obtain ⟨hv0, hv1⟩ := valTo_bound k hk hall
            have hv2 : valTo (l.take k) < 10000000000 := by
              have h9 := Nat.pow_le_pow_right (n := 10) (by omega) (show k ≤ 10 by omega)
              have h10 : ((10 ^ k : Nat) : Int) = (10 : Int) ^ k := by simp
              omega
            obtain ⟨V, hV⟩ : ∃ V, V = valTo (l.take k) := ⟨_, rfl⟩
            have hget : (str l)[k]'hk2 = l[k] := str_get l k hlt hk2
            cases hd : digB l[k] with
            | true =>
              have h3 : 48 ≤ (l[k]).toNat ∧ (l[k]).toNat ≤ 57 := by simpa [digB] using hd
              have hn := Lib.hid (show valTo (l.take (k + 1)) = 10 * V + (((l[k]).toNat : Int) - 48) by rw [List.take_succ_eq_append_getElem hlt, valTo_snoc, hV]; try rfl)
              have ha := Lib.hid (all_take_succ hlt hall hd)
              rw [← hV] at hv0 hv2
              rw [← hV]
              obtain ⟨X, hX⟩ : ∃ X : Int, X = ((l[k]).toNat : Int) := ⟨_, rfl⟩
              have h3a : 48 ≤ X := by omega
              have h3b : X ≤ 57 := by omega
              have hw1 : wrap64 (10 * V) = 10 * V := IntWalk.wrap64_in _ (by omega)
              have hw2 : wrap64 (10 * V + (X - 48)) = 10 * V + (X - 48) := IntWalk.wrap64_in _ (by omega)
              have hXs := hX.symm
              have hnX := Lib.hid (show valTo (l.take (k + 1)) = 10 * V + (X - 48) by rw [hn.out, hX])
              clear hV hall hd h3 hv1 hX hn
              go_wp2_with fail
              go_roundw
              case rel => exact ⟨k + 1, by omega, by go_num, by rw [hnX.out], ha.out, trivial⟩
              case measure => simp [intOf]; omega
            | false =>
              have hno := Lib.hid (show l1R l = -1 by rw [hLR.out, kyR, all_no hlt hd]; rfl)
              have h3 : ((l[k]).toNat : Int) < 48 ∨ 57 < ((l[k]).toNat : Int) := by
                have : ¬ (48 ≤ (l[k]).toNat ∧ (l[k]).toNat ≤ 57) := by simpa [digB] using hd
                omega
              obtain ⟨X, hX⟩ : ∃ X : Int, X = ((l[k]).toNat : Int) := ⟨_, rfl⟩
              rw [← hX] at h3
              have hXs := hX.symm
              clear hV hall hd hv1 hX
              by_cases h4 : X < 48
              · clear h3
                go_wp2_with fail
                go_ret
                exact ⟨by rw [hno.out]; rfl, rfl⟩
              · have h5 : 57 < X := by omega
                have h6 : 48 ≤ X := by omega
                clear h3 h4
                go_wp2_with fail
                go_ret
                exact ⟨by rw [hno.out]; rfl, rfl⟩
          · obtain rfl : k = l.length := by omega
            have hk2 : ¬ l.length < (str l).size := by rw [hszH.out]; omega
            have hfin := Lib.hid (show l1R l = valTo (l.take l.length) by rw [hLR.out]; rw [List.take_length] at hall ⊢; simp [kyR, hall])
            clear hall
            go_wp2_with fail
            go_ret
            exact ⟨by rw [hfin.out]; rfl, rfl⟩
end Go.Proofs.YtjhbffndiaggmaaGreatDoor

/-
  The reference's splitting of a text at a byte. The condition is a bound on the text's length.
-/
namespace Go.Proofs.YtjhbffndiaggmaaGreatDoor
open Go.RowKit Go.ChangeShapes Go.WideShapes
set_option linter.unusedVariables false
set_option linter.unusedSimpArgs false

/-- rows of a slice of texts -/
def strR (ps : List (List UInt8)) : List (List Value) := ps.map fun p => [.string (str p)]
theorem strR_snoc (ps : List (List UInt8)) (p : List UInt8) : strR (ps ++ [p]) = strR ps ++ [[.string (str p)]] := by simp [strR]
theorem str_extract (l : List UInt8) (f k : Nat) : (str l).extract f k = str ((l.take k).drop f) := by
  apply ByteArray.ext
  simp [str, List.drop_take]
theorem strInfo2 : (Tryz.prog.info? 9).map (fun i => (i.zero, i.size, i.bytes)) = some (some (.string ⟨#[]⟩), 1, 16) := by kernel_rfl
set_option maxRecDepth 100000 in
set_option maxHeartbeats 4000000 in
theorem l1Split_any (l : List UInt8) (b : UInt8) (w : World) (hl : l.length ≤ 1048577) :
    Calls Tryz.prog 103 #[.string (str l), .int .u8 b.toNat] w fun e w' => ∃ v, e = .returned v ∧ OwnR w' w.heap.size w'.heap.size 9 1 v (strR (splitL b l)) ∧ Below w.heap.size w w' := by
  have hszH := Lib.hid (str_size l)
  go_enter Tryz.func103, Tryz.ntmps103
  go_wp2_with fail
  go_loopw [5, 6, 7] (fun v fv i wr => ∃ (k f : Nat) (ps : List (List UInt8)), k ≤ l.length ∧ f ≤ k ∧ ps.length ≤ k ∧ i = .int .i64 k ∧ fv = .int .i64 f ∧ splitL b (l.take k) = ps ++ [(l.take k).drop f] ∧ OwnR wr w.heap.size wr.heap.size 9 1 v (strR ps) ∧ Below w.heap.size w wr) (fun _ _ i _ => l.length - (intOf i).toNat)
  case atStart => exact ⟨0, 0, [], Nat.zero_le _, Nat.le_refl _, Nat.le_refl _, rfl, rfl, rfl, OwnR.nil, Below.refl _ _⟩
  case round =>
    obtain ⟨k, f, ps, hk, hf, hpl, rfl, rfl, hs, hown, hbr⟩ := hrel
    obtain ⟨Av, cv, rfl, hvc, hvm, -, -⟩ := hown.cells
    have hszr := hbr.size
    obtain ⟨P, hP⟩ : ∃ P, P = (l.take k).drop f := ⟨_, rfl⟩
    have hrl : (strR ps).length ≤ 1048577 := by simp [strR]; omega
    have hO := hown.alloc (.cells #[.string (str P)] 9)
    have hO2 := hO.mono (Nat.le_refl _) (show wr.heap.size ≤ (wr.alloc (.cells #[.string (str P)] 9)).heap.size by simp)
    have hbk : Bk (wr.alloc (.cells #[.string (str P)] 9)) wr.heap.size 9 #[.string (str P)] := Bk.new wr _ _
    have hcell : ∀ i (hi : i < [[Value.string (str P)]].length) u, u < 1 → (wr.alloc (.cells #[.string (str P)] 9)).cell? ⟨wr.heap.size, i * 1 + u, none⟩ = ([[Value.string (str P)]][i])[u]? := fun i hi u hu => by
      obtain rfl : i = 0 := by simpa using hi
      rw [Nat.zero_mul, Nat.zero_add, hbk.cell u]
      simp
    have hB1 := hbr.alloc hszr (.cells #[.string (str P)] 9)
    have hOH := Lib.hid hO2
    have hcH := Lib.hid hcell
    have hBH := Lib.hid hB1
    have hownH := Lib.hid hown
    have hbrH := Lib.hid hbr
    have hlK : l.length ≤ (str l).size := by rw [hszH.out]; exact Nat.le_refl _
    clear hO hO2 hbk hcell hB1 hown hbr
    by_cases hlt : k < l.length
    · have hk2 : k < (str l).size := by rw [hszH.out]; exact hlt
      have hget : (str l)[k]'hk2 = l[k] := str_get l k hlt hk2
      have hex : (str l).extract f k = str P := by rw [str_extract, hP]
      by_cases hx : l[k] = b
      · have hst := Lib.hid (splitL_step_sep hlt hx hs)
        rw [← hP] at hst
        have hxx : ((l[k]).toNat : Int) = (b.toNat : Int) := by rw [hx]
        have hf2 : (f : Int) ≤ k := by omega
        have hk3 : (k : Int) ≤ (str l).size := by omega
        clear hs hP hx
        go_wp2_with (at_builtin; refine wp_append_rows rfl (.tmp 19) (.tmp 24) rfl Tryz.underlying109 strInfo2 rfl (by omega) rfl hOH.out (news := [[.string (str P)]]) (by rfl) hcH.out (by simp) (by simp [Value.oneCell']) (by simp; omega) (by omega) (by simp; omega) ?_; intro v5 w5 ho5 hg5 hb5 hat5)
        have hB5 := Lib.hid (hBH.out.trans hb5)
        have ho5H := Lib.hid (show OwnR w5 w.heap.size w5.heap.size 9 1 v5 (strR (ps ++ [P])) by rw [strR_snoc]; exact ho5)
        clear ho5 hg5 hb5 hat5
        go_roundw
        case rel => exact ⟨k + 1, k + 1, ps ++ [P], by omega, Nat.le_refl _, by simp; omega, by go_num, by go_num, hst.out, ho5H.out, hB5.out⟩
        case measure => simp [intOf]; omega
      · have hst := Lib.hid (splitL_step_byte hlt hx hf hs)
        have hxx : ¬ ((l[k]).toNat : Int) = (b.toNat : Int) := fun e => hx (UInt8.toNat_inj.1 (by omega))
        have hyy : (((l[k]).toNat : Int) == (b.toNat : Int)) = false := by simpa using hxx
        clear hs hP hx
        go_wp2_with fail
        go_roundw
        case rel => exact ⟨k + 1, f, ps, by omega, by omega, by omega, by go_num, rfl, hst.out, hownH.out, hbrH.out⟩
        case measure => simp [intOf]; omega
    · obtain rfl : k = l.length := by omega
      have hex : (str l).extract f (str l).size = str P := by rw [hszH.out, str_extract, hP]
      have hfin := Lib.hid (show splitL b l = ps ++ [P] by rw [List.take_length] at hs hP; rw [hs, hP])
      have hn : ¬ l.length < (str l).size := by rw [hszH.out]; omega
      have hf2 : (f : Int) ≤ (str l).size := by omega
      clear hs hP
      go_wp2_with (at_builtin; refine wp_append_rows rfl (.tmp 28) (.tmp 32) rfl Tryz.underlying109 strInfo2 rfl (by omega) rfl hOH.out (news := [[.string (str P)]]) (by rfl) hcH.out (by simp) (by simp [Value.oneCell']) (by simp; omega) (by omega) (by simp; omega) ?_; intro v5 w5 ho5 hg5 hb5 hat5)
      have hB5 := hBH.out.trans hb5
      have ho5' : OwnR w5 w.heap.size w5.heap.size 9 1 v5 (strR (splitL b l)) := by rw [hfin.out, strR_snoc]; exact ho5
      clear ho5 hg5 hb5 hat5
      go_ret
      exact ⟨_, rfl, ho5', hB5⟩
end Go.Proofs.YtjhbffndiaggmaaGreatDoor
