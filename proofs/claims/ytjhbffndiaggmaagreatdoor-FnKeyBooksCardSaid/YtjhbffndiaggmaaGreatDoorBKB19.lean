/-
  Contracts and plain laws that the walk uses, several texts in one. The conditions are named ahead of each.
-/
import Derived.Test.YtjhbffndiaggmaaGreatDoorBKB18
import Derived.Test.YtjhbffndiaggmaaGreatDoorBKB1
import Derived.Test.YtjhbffndiaggmaaGreatDoorBKB2
import Derived.Deep.RegionHeld3

/-
  Contracts of HideSignals and ShowSignals, in the reference and in the program. The conditions are bounds on lengths.
-/
namespace Go.Proofs.YtjhbffndiaggmaaGreatDoor
open Go.RowKit Go.ChangeShapes Go.WideShapes
set_option linter.unusedVariables false
set_option linter.unusedSimpArgs false

def hsB (k1 p1 : Int) (z1 : List Int) (page : Int) (ss : List Int) : Bool := pgB k1 p1 z1 page && (decide (ss.length ≤ 20) && allB ss 1 60)
def hsL (by_ : Int) (k1 p1 : Int) (z1 : List Int) (page : Int) (ss : List Int) : List Int := if hsB k1 p1 z1 page ss then shL ss (pageL k1 page) by_ else []
theorem hsL_no {by_ k1 p1 : Int} {z1 : List Int} {page : Int} {ss : List Int} (h : hsB k1 p1 z1 page ss = false) : hsL by_ k1 p1 z1 page ss = [] := by simp [hsL, h]
theorem hsL_yes {by_ k1 p1 : Int} {z1 : List Int} {page : Int} {ss : List Int} (h : hsB k1 p1 z1 page ss = true) : hsL by_ k1 p1 z1 page ss = shL ss (pageL k1 page) by_ := by simp [hsL, h]
theorem pageL_bd (key page : Int) : ∀ k (_ : k < (pageL key page).length), 0 ≤ (pageL key page)[k] ∧ (pageL key page)[k] ≤ 59 := fun k hk => by rw [pageL_at]; omega
theorem shL_take_succ (ss ns : List Int) (by_ : Int) (k : Nat) (h1 : k < ss.length) (h2 : k < ns.length) : (shL ss ns by_).take (k + 1) = (shL ss ns by_).take k ++ [shf ss[k] ns[k] by_] := by
  have hl : k < (shL ss ns by_).length := by simp [shL]; omega
  rw [List.take_succ_eq_append_getElem hl, shL_at ss ns by_ k h1 h2 hl]
theorem shL_tk_succ (ss ns : List Int) (by_ : Int) (k : Nat) (h1 : k < ss.length) (h2 : k < ns.length) : (tk (shL ss ns by_) k).set k (shf ss[k] ns[k] by_) = tk (shL ss ns by_) (k + 1) := by
  have hl : k < (shL ss ns by_).length := by simp [shL]; omega
  rw [← shL_at ss ns by_ k h1 h2 hl]; exact tk_succ _ _ hl
theorem by_mul {s n by_ : Int} (hs : 1 ≤ s ∧ s ≤ 60) (hn : 0 ≤ n ∧ n ≤ 59) (hb : by_ = 1 ∨ by_ = -1) : -59 ≤ by_ * n ∧ by_ * n ≤ 59 := by
  rcases hb with rfl | rfl <;> omega
theorem shf_tmod {s n by_ : Int} (hs : 1 ≤ s ∧ s ≤ 60) (hn : 0 ≤ n ∧ n ≤ 59) (hb : by_ = 1 ∨ by_ = -1) : -59 ≤ (s - 1 + by_ * n).tmod 60 ∧ (s - 1 + by_ * n).tmod 60 ≤ 59 := by
  have h1 := Int.tmod_lt_of_pos (s - 1 + by_ * n) (b := 60) (by omega)
  have h2 := Int.lt_tmod_of_pos (s - 1 + by_ * n) (b := 60) (by omega)
  omega

set_option maxHeartbeats 1000000 in
theorem shifted_any (ss : List Int) (A : Option Addr) (c : Nat) (ns : List Int) (A' : Option Addr) (c' : Nat) (by_ : Int) {l h l' h' : Nat} (w : World) (hr0 : Rd w l h A ss) (hr0' : Rd w l' h' A' ns) (hl : ss.length ≤ ns.length) (hl2 : ss.length ≤ 1000000)
    (ha : ∀ k (_ : k < ss.length), 1 ≤ ss[k] ∧ ss[k] ≤ 60) (hn : ∀ k (_ : k < ns.length), 0 ≤ ns[k] ∧ ns[k] ≤ 59) (hb : by_ = 1 ∨ by_ = -1) :
    Calls Tryz.prog 109 #[.slice A ss.length c, .slice A' ns.length c', .int .i64 by_] w fun e w' => ∃ A2 c2, e = .returned (.slice A2 (shL ss ns by_).length c2) ∧ Own w' w.heap.size w'.heap.size (.slice A2 (shL ss ns by_).length c2) (shL ss ns by_) ∧ Below w.heap.size w w' := by
  have hr := hr0.std
  have hr' := hr0'.std
  have hlen := shL_len ss ns by_ hl
  have hlenH := Lib.hid hlen
  clear hr0 hr0'
  go_enter Tryz.func109, Tryz.ntmps109
  go_wp2_with (at_make; refine wp_make_ints rfl _ _ rfl ss.length rfl rfl (by omega) ?_; intro w1 hown1 hb1 hs1)
  have ho1 : Hid (Own w1 w.heap.size (w.heap.size + 1) (.slice (some ⟨w.heap.size, 0, none⟩) ss.length ss.length) (tk (shL ss ns by_) 0)) := by
    show Own _ _ _ _ _
    rw [tk_zero, hlen]
    exact hown1.mono (Nat.le_refl _) (by omega)
  clear hown1 hlen
  have hs1H := Lib.hid hs1
  clear hs1
  go_loopw [8, 9, 15] (fun _ _ i wr => ∃ k : Nat, k ≤ ss.length ∧ i = .int .i64 k ∧ Own wr w.heap.size (w.heap.size + 1) (.slice (some ⟨w.heap.size, 0, none⟩) ss.length ss.length) (tk (shL ss ns by_) k) ∧ Below w.heap.size w wr ∧ wr.heap.size = w.heap.size + 1) (fun _ _ i _ => ss.length - (intOf i).toNat)
  case atStart => exact ⟨0, Nat.zero_le _, rfl, ho1.out, hb1, hs1H.out⟩
  case round =>
    clear ho1 hb1 hs1H
    obtain ⟨k, hk, rfl, hown, hbr, hsr⟩ := hrel
    by_cases hlt : k < ss.length
    · have hlt' : k < ns.length := by omega
      obtain ⟨b, off, rfl, _, _, hc⟩ := (hr.below hbr (Nat.le_refl _)) (by omega)
      obtain ⟨b', off', rfl, _, _, hc'⟩ := (hr'.below hbr (Nat.le_refl _)) (by omega)
      have x1 := hc k hlt
      have x2 := hc' k hlt'
      have bs := ha k hlt
      have bn := hn k hlt'
      have bm := by_mul bs bn hb
      have hst0 := shL_tk_succ ss ns by_ k hlt hlt'
      have hst := Lib.hid hst0
      have htl := tk_length (shL ss ns by_) k (by rw [hlenH.out]; omega)
      rw [hlenH.out] at htl
      obtain ⟨g, c', he, _, _, _, hcell, hfr⟩ := hown.at_ (by rw [htl]; omega)
      injection he with e1 e2 e3
      injection e1 with e1
      injection e1 with e1 e4
      subst e1
      have hf := hfr k
      obtain ⟨x, hcd⟩ : ∃ x, wr.cell? ⟨w.heap.size, k, none⟩ = some (.int .i64 x) := ⟨_, hcell k (by rw [htl]; omega)⟩
      have hst2 := Lib.hid (hown.stored (j := k) ((ss[k] - 1 + by_ * ns[k]) % 60 + 1))
      have hB3 := Lib.hid (hbr.setCell (p := ⟨w.heap.size, k, none⟩) (by dsimp only; omega) (.int .i64 ((ss[k] - 1 + by_ * ns[k]) % 60 + 1)))
      have hsH := Lib.hid hsr
      clear hcell hfr e2 e3 e4 hown hbr hc hc' hst0 htl hsr
      go_wp2
      go_roundw
      case rel => exact ⟨k + 1, by omega, by go_num, by rw [← hst.out]; exact hst2.out, hB3.out, by rw [size_setCell]; exact hsH.out⟩
      case measure => simp [intOf]; omega
    · obtain rfl : k = ss.length := by omega
      have hfin : Hid (tk (shL ss ns by_) ss.length = shL ss ns by_) := by show _ = _; rw [← hlenH.out]; exact tk_all _
      rw [hfin.out] at hown
      have ho : Hid (Own wr w.heap.size wr.heap.size (.slice (some ⟨w.heap.size, 0, none⟩) (shL ss ns by_).length ss.length) (shL ss ns by_)) := by rw [hlenH.out]; exact hown.mono (by omega) (by omega)
      clear hown
      go_wp2
      go_ret
      exact ⟨_, _, by rw [hlenH.out]; rfl, ho.out, hbr⟩

set_option maxHeartbeats 1000000 in
theorem scAdd_any (ss : List Int) (A : Option Addr) (c : Nat) (ns : List Int) (A' : Option Addr) (c' : Nat) (by_ : Int) {l h l' h' : Nat} (w : World) (hr0 : Rd w l h A ss) (hr0' : Rd w l' h' A' ns) (hl : ss.length ≤ ns.length) (hl2 : ss.length ≤ 1000000)
    (ha : ∀ k (_ : k < ss.length), 1 ≤ ss[k] ∧ ss[k] ≤ 60) (hn : ∀ k (_ : k < ns.length), 0 ≤ ns[k] ∧ ns[k] ≤ 59) (hb : by_ = 1 ∨ by_ = -1) :
    Calls Tryz.prog 112 #[.slice A' ns.length c', .slice A ss.length c, .int .i64 by_] w fun e w' => ∃ A2 c2, e = .returned (.slice A2 (shL ss ns by_).length c2) ∧ Own w' w.heap.size w'.heap.size (.slice A2 (shL ss ns by_).length c2) (shL ss ns by_) ∧ Below w.heap.size w w' := by
  have hr := hr0.std
  have hr' := hr0'.std
  have hlen := shL_len ss ns by_ hl
  have hlenH := Lib.hid hlen
  clear hr0 hr0' hlen
  go_enter Tryz.func112, Tryz.ntmps112
  go_wp2
  go_loopw [7, 8, 9, 12] (fun v _ _ i wr => ∃ k : Nat, k ≤ ss.length ∧ i = .int .i64 k ∧ Own wr w.heap.size wr.heap.size v ((shL ss ns by_).take k) ∧ Below w.heap.size w wr) (fun _ _ _ i _ => ss.length - (intOf i).toNat)
  case atStart => exact ⟨0, Nat.zero_le _, rfl, Own.nil, Below.refl _ _⟩
  case round =>
    obtain ⟨k, hk, rfl, hown, hbr⟩ := hrel
    have hszr := hbr.size
    by_cases hlt : k < ss.length
    · have hlt' : k < ns.length := by omega
      obtain ⟨b, off, rfl, _, _, hc⟩ := (hr.below hbr (Nat.le_refl _)) (by omega)
      obtain ⟨b', off', rfl, _, _, hc'⟩ := (hr'.below hbr (Nat.le_refl _)) (by omega)
      have x1 := hc k hlt
      have x2 := hc' k hlt'
      have bs := ha k hlt
      have bn := hn k hlt'
      have bm := by_mul bs bn hb
      have bt := shf_tmod bs bn hb
      have hval := Lib.hid ((by rw [← shf_spec bs bn hb, Int.add_emod_right]) : (ss[k] - 1 + by_ * ns[k]).tmod 60 % 60 + 1 = shf ss[k] ns[k] by_)
      have hst := Lib.hid (shL_take_succ ss ns by_ k hlt hlt')
      have hpl : Hid (((shL ss ns by_).take k).length = k) := by show _ = _; rw [List.length_take, hlenH.out]; omega
      clear hc hc'
      go_wp2_with (at_builtin; refine wp_append_ints rfl (.tmp 17) (.tmp 31) rfl rfl (hown.alloc _) (ys := [(ss[k] - 1 + by_ * ns[k]).tmod 60 % 60 + 1]) rfl ((Rd.one wr _ _ _ rfl).mono (Nat.zero_le _) (by simp)) (by rw [hpl.out]; simp; omega) (by simp; omega) ?_; intro v3 w3 hown3 hg3 hb3 hat3)
      have hB3 : Hid (Below w.heap.size w w3) := (hbr.alloc (by omega) _).trans (hb3.mono (by omega))
      have ho3 := Lib.hid hown3
      clear hown3 hg3 hb3 hat3 hown hbr
      go_roundw
      case rel => exact ⟨k + 1, by omega, by go_num, by rw [hst.out, ← hval.out]; exact ho3.out, hB3.out⟩
      case measure => simp [intOf]; omega
    · obtain rfl : k = ss.length := by omega
      have hfin : Hid ((shL ss ns by_).take ss.length = shL ss ns by_) := by show _ = _; rw [List.take_of_length_le (by rw [hlenH.out]; exact Nat.le_refl _)]
      rw [hfin.out] at hown
      obtain ⟨A, c, rfl, -, -⟩ := hown.rd
      have ho := Lib.hid hown
      clear hown
      go_wp2
      go_ret
      exact ⟨_, _, rfl, ho.out, hbr⟩

theorem isPage_v (k1 p1 : Int) (z1 : List Int) (A1 : Option Addr) (c1 : Nat) (page : Int) {l h : Nat} (w : World) (hr : Rd w l h A1 z1) (hl : z1.length ≤ 1048576) (v : Bool) (hv : pgB k1 p1 z1 page = v) :
    Calls Tryz.prog 86 #[.agg #[.int .i64 k1, .int .i64 p1, .slice A1 z1.length c1], .int .i64 page] w fun e w' => e = .returned (.bool v) ∧ Below w.heap.size w w' := by
  rw [← hv]; exact isPage_any k1 p1 z1 A1 c1 page w hr hl
theorem allWithin_v (zs : List Int) (A : Option Addr) (c : Nat) {l h : Nat} (lo hi : Int) (w : World) (hr : Rd w l h A zs) (hl : zs.length ≤ 9223372036854775807) (v : Bool) (hv : allB zs lo hi = v) :
    Calls Tryz.prog 80 #[.slice A zs.length c, .int .i64 lo, .int .i64 hi] w fun e w' => e = .returned (.bool v) ∧ w = w' := by
  rw [← hv]; exact allWithin_any zs A c lo hi w hr hl

theorem scContents_v (ss : List Int) (A : Option Addr) (c : Nat) {l h : Nat} (w : World) (hr : Rd w l h A ss) (hl : ss.length ≤ 1048576) (v : Bool) (hv : allB ss 1 60 = v) :
    Calls Tryz.prog 155 #[.slice A ss.length c] w fun e w' => e = .returned (.bool v) ∧ Below w.heap.size w w' := by
  subst hv
  go_enter Tryz.func155, Tryz.ntmps155
  go_wp2_with (go_at_call 186; refine (l1All_any ss A c _ _ _ hr (by omega)).mono ?_; rintro e w' ⟨rfl, rfl⟩)
  go_ret
  exact ⟨rfl, Below.refl _ _⟩

set_option maxHeartbeats 1000000 in
theorem scPage_v (k1 p1 : Int) (z1 : List Int) (A1 : Option Addr) (c1 : Nat) (page : Int) (ss : List Int) (A : Option Addr) (c : Nat) {l1 h1 l h : Nat} (w : World) (hr1 : Rd w l1 h1 A1 z1) (hr : Rd w l h A ss) (hl1 : z1.length ≤ 1048576) (hl : ss.length ≤ 1048576) (v : Bool) (hv0 : hsB k1 p1 z1 page ss = v) :
    Calls Tryz.prog 111 #[.agg #[.int .i64 k1, .int .i64 p1, .slice A1 z1.length c1], .int .i64 page, .slice A ss.length c] w fun e w' => e = .returned (.bool v) ∧ Below w.heap.size w w' := by
  subst hv0
  cases q : kbB k1 p1 z1 with
  | false =>
    have hv := Lib.hid (show hsB k1 p1 z1 page ss = false by simp [hsB, pgB, q])
    go_enter Tryz.func111, Tryz.ntmps111
    go_wp2_with fail
    refine (kyGood_any k1 p1 z1 A1 c1 _ (hr1.alloc _) (by omega)).mono ?_
    rintro e w1 ⟨rfl, hb1⟩
    have hb := ((Below.refl w.heap.size w).alloc (Nat.le_refl _) _).trans (hb1.mono (by simp))
    clear hb1
    go_wp2
    go_ret
    exact ⟨by rw [hv.out]; rfl, hb⟩
  | true =>
    have hp : 1 ≤ p1 ∧ p1 ≤ 60 := by simp only [kbB, Bool.and_eq_true] at q; exact inB_iff.1 q.2.1
    cases q2 : inB page 0 (p1 - 1) with
    | false =>
      have hv := Lib.hid (show hsB k1 p1 z1 page ss = false by simp [hsB, pgB, q2])
      go_enter Tryz.func111, Tryz.ntmps111
      go_wp2_with fail
      refine (kyGood_any k1 p1 z1 A1 c1 _ (hr1.alloc _) (by omega)).mono ?_
      rintro e w1 ⟨rfl, hb1⟩
      have hb := ((Below.refl w.heap.size w).alloc (Nat.le_refl _) _).trans (hb1.mono (by simp))
      have b1 := (Bk.new w _ _).st hb1
      have a1 := b1.cell 1
      simp at a1
      clear hb1 b1
      go_wp2_with (go_at_call 104; refine (l1In_any _ _ _ _).mono ?_; rintro e w' ⟨rfl, rfl⟩)
      go_ret
      exact ⟨by rw [hv.out]; rfl, hb⟩
    | true =>
      by_cases q3 : ss.length ≤ 20
      · have hv := Lib.hid (show hsB k1 p1 z1 page ss = allB ss 1 60 by simp [hsB, pgB, q, q2, q3])
        go_enter Tryz.func111, Tryz.ntmps111
        go_wp2_with fail
        refine (kyGood_any k1 p1 z1 A1 c1 _ (hr1.alloc _) (by omega)).mono ?_
        rintro e w1 ⟨rfl, hb1⟩
        have hb := ((Below.refl w.heap.size w).alloc (Nat.le_refl _) _).trans (hb1.mono (by simp))
        have b1 := (Bk.new w _ _).st hb1
        have a1 := b1.cell 1
        simp at a1
        have hr2 := (hr.alloc (.cells #[.int .i64 k1, .int .i64 p1, .slice A1 z1.length c1] 26)).st hb1
        have sz1 := hb.size
        clear hb1 b1
        go_wp2_with (first | (go_at_call 104; refine (l1In_any _ _ _ _).mono ?_; rintro e w' ⟨rfl, rfl⟩) | (go_at_call 155; (with_reducible refine (scContents_v ss A c _ hr2 hl _ rfl).mono ?_); rintro e w2 ⟨rfl, hb2⟩))
        go_ret
        exact ⟨by rw [hv.out]; rfl, hb.trans (hb2.mono (by omega))⟩
      · have hv := Lib.hid (show hsB k1 p1 z1 page ss = false by simp [hsB, q3])
        go_enter Tryz.func111, Tryz.ntmps111
        go_wp2_with fail
        refine (kyGood_any k1 p1 z1 A1 c1 _ (hr1.alloc _) (by omega)).mono ?_
        rintro e w1 ⟨rfl, hb1⟩
        have hb := ((Below.refl w.heap.size w).alloc (Nat.le_refl _) _).trans (hb1.mono (by simp))
        have b1 := (Bk.new w _ _).st hb1
        have a1 := b1.cell 1
        simp at a1
        clear hb1 b1
        go_wp2_with (go_at_call 104; refine (l1In_any _ _ _ _).mono ?_; rintro e w' ⟨rfl, rfl⟩)
        go_ret
        exact ⟨by rw [hv.out]; rfl, hb⟩

set_option maxHeartbeats 1000000 in
theorem sHideSignals_any (k1 p1 : Int) (z1 : List Int) (A1 : Option Addr) (c1 : Nat) (page : Int) (ss : List Int) (A : Option Addr) (c : Nat) {l1 h1 l h : Nat} (w : World) (hr1 : Rd w l1 h1 A1 z1) (hr : Rd w l h A ss) (hl1 : z1.length ≤ 1048576) (hl : ss.length ≤ 1048576) :
    Calls Tryz.prog 31 #[.agg #[.int .i64 k1, .int .i64 p1, .slice A1 z1.length c1], .int .i64 page, .slice A ss.length c] w fun e w' => ∃ A c, e = .returned (.tuple #[.slice A (hsL 1 k1 p1 z1 page ss).length c, .bool (hsB k1 p1 z1 page ss)]) ∧
      Rd w' 0 w'.heap.size A (hsL 1 k1 p1 z1 page ss) ∧ (hsL 1 k1 p1 z1 page ss).length ≤ 1048576 ∧ Below w.heap.size w w' := by
  cases q : hsB k1 p1 z1 page ss with
  | false =>
    rw [hsL_no q]
    go_enter Tryz.func31, Tryz.ntmps31
    go_wp2_with (go_at_call 111; (with_reducible refine (scPage_v k1 p1 z1 A1 c1 page ss A c _ (hr1.alloc _) (hr.alloc _) hl1 hl _ q).mono ?_); rintro e w1 ⟨rfl, hb1⟩)
    go_ret2
    exact ⟨none, 0, rfl, Rd.nil, by simp, ((Below.refl w.heap.size w).alloc (Nat.le_refl _) _).trans (hb1.mono (by simp))⟩
  | true =>
    rw [hsL_yes q]
    have q' := q
    simp only [hsB, Bool.and_eq_true, decide_eq_true_eq] at q'
    have hbd := pgB_bd q'.1
    have hl20 := q'.2.1
    have hall := allB_iff.1 q'.2.2
    have hlen := Lib.hid (shL_len ss (pageL k1 page) 1 (by rw [pageL_len]; exact hl20))
    clear q'
    go_enter Tryz.func31, Tryz.ntmps31
    go_wp2_with fail
    (with_reducible refine (scPage_v k1 p1 z1 A1 c1 page ss A c _ (hr1.alloc _) (hr.alloc _) hl1 hl _ q).mono ?_)
    rintro e w1 ⟨rfl, hb1⟩
    have hb := ((Below.refl w.heap.size w).alloc (Nat.le_refl _) _).trans (hb1.mono (by simp))
    have b1 := (Bk.new w _ _).st hb1
    have a0 := b1.cell 0
    have a1 := b1.cell 1
    have a2 := b1.cell 2
    simp at a0 a1 a2
    have s1 : w.heap.size + 1 ≤ w1.heap.size := by have := hb1.size; simpa using this
    have hr2 := (hr.alloc (.cells #[.int .i64 k1, .int .i64 p1, .slice A1 z1.length c1] 26)).st hb1
    clear hb1 b1
    go_wp2_with fail
    refine (kyPage_any k1 p1 z1 A1 c1 page _ hbd.1 hbd.2).mono ?_
    rintro e w2 ⟨A2, c2, rfl, ho2, hb2⟩
    have hb' := hb.trans (hb2.mono (by omega))
    have hr3 := hr2.st hb2
    have sz2 := hb'.size
    clear hb a0 a1 a2
    go_wp2_with fail
    refine (scAdd_any ss A c (pageL k1 page) A2 c2 1 _ hr3 ho2.rd' (by rw [pageL_len]; exact hl20) (by omega) hall (pageL_bd _ _) (.inl rfl)).mono ?_
    rintro e w3 ⟨A3, c3, rfl, ho3, hb3⟩
    have hb'' := hb'.trans (hb3.mono (by omega))
    clear hb' hb3 hb2
    go_wp2
    go_ret2
    exact ⟨A3, c3, rfl, ho3.rd'.std, by rw [hlen.out]; omega, hb''⟩
set_option maxHeartbeats 1000000 in
theorem iHideSignals_any (k1 p1 : Int) (z1 : List Int) (A1 : Option Addr) (c1 : Nat) (page : Int) (ss : List Int) (A : Option Addr) (c : Nat) {l1 h1 l h : Nat} (w : World) (hr1 : Rd w l1 h1 A1 z1) (hr : Rd w l h A ss) (hl1 : z1.length ≤ 1048576) (hl : ss.length ≤ 1048576) :
    Calls Tryz.prog 30 #[.agg #[.int .i64 k1, .int .i64 p1, .slice A1 z1.length c1], .int .i64 page, .slice A ss.length c] w fun e w' => ∃ A c, e = .returned (.tuple #[.slice A (hsL 1 k1 p1 z1 page ss).length c, .bool (hsB k1 p1 z1 page ss)]) ∧
      Own w' w.heap.size w'.heap.size (.slice A (hsL 1 k1 p1 z1 page ss).length c) (hsL 1 k1 p1 z1 page ss) ∧ (hsL 1 k1 p1 z1 page ss).length ≤ 1048576 ∧ Below w.heap.size w w' := by
  cases q : pgB k1 p1 z1 page with
  | false =>
    have hq := show hsB k1 p1 z1 page ss = false by simp [hsB, q]
    rw [hsL_no hq, hq]
    clear hq
    go_enter Tryz.func30, Tryz.ntmps30
    go_wp2_with (go_at_call 86; (with_reducible refine (isPage_v k1 p1 z1 A1 c1 page _ (hr1.alloc _) hl1 _ q).mono ?_); rintro e w1 ⟨rfl, hb1⟩)
    go_ret2
    (first | exact ⟨none, 0, rfl, Own.nil, by simp, ((Below.refl w.heap.size w).alloc (Nat.le_refl _) _).trans (hb1.mono (by simp))⟩ | exact ⟨none, 0, rfl, Own.nil, ((Below.refl w.heap.size w).alloc (Nat.le_refl _) _).trans (hb1.mono (by simp))⟩)
  | true =>
    by_cases q3 : ss.length ≤ 20
    · cases q4 : allB ss 1 60 with
      | false =>
        have hq := show hsB k1 p1 z1 page ss = false by simp [hsB, q4]
        rw [hsL_no hq, hq]
        clear hq
        go_enter Tryz.func30, Tryz.ntmps30
        go_wp2_with (go_at_call 86; (with_reducible refine (isPage_v k1 p1 z1 A1 c1 page _ (hr1.alloc _) hl1 _ q).mono ?_); rintro e w1 ⟨rfl, hb1⟩)
        all_goals skip
        have hr2 := (hr.alloc (.cells #[.int .i64 k1, .int .i64 p1, .slice A1 z1.length c1] 26)).st hb1
        go_wp2_with (go_at_call 80; (with_reducible refine (allWithin_v ss A c _ _ _ hr2 (by omega) _ q4).mono ?_); rintro e w' ⟨rfl, rfl⟩)
        go_ret2
        (first | exact ⟨none, 0, rfl, Own.nil, by simp, ((Below.refl w.heap.size w).alloc (Nat.le_refl _) _).trans (hb1.mono (by simp))⟩ | exact ⟨none, 0, rfl, Own.nil, ((Below.refl w.heap.size w).alloc (Nat.le_refl _) _).trans (hb1.mono (by simp))⟩)
      | true =>
        have hq := show hsB k1 p1 z1 page ss = true by simp [hsB, q, q3, q4]
        rw [hsL_yes hq, hq]
        have hbd := pgB_bd q
        have hall := allB_iff.1 q4
        have hlen := Lib.hid (shL_len ss (pageL k1 page) 1 (by rw [pageL_len]; exact q3))
        clear hq
        go_enter Tryz.func30, Tryz.ntmps30
        go_wp2_with fail
        (with_reducible refine (isPage_v k1 p1 z1 A1 c1 page _ (hr1.alloc _) hl1 _ q).mono ?_)
        rintro e w1 ⟨rfl, hb1⟩
        have hb := ((Below.refl w.heap.size w).alloc (Nat.le_refl _) _).trans (hb1.mono (by simp))
        have b1 := (Bk.new w _ _).st hb1
        have a0 := b1.cell 0
        have a1 := b1.cell 1
        have a2 := b1.cell 2
        simp at a0 a1 a2
        have s1 : w.heap.size + 1 ≤ w1.heap.size := by have := hb1.size; simpa using this
        have hr2 := (hr.alloc (.cells #[.int .i64 k1, .int .i64 p1, .slice A1 z1.length c1] 26)).st hb1
        clear hb1 b1
        go_wp2_with (go_at_call 80; (with_reducible refine (allWithin_v ss A c _ _ _ hr2 (by omega) _ q4).mono ?_); rintro e w' ⟨rfl, rfl⟩)
        refine (pageOf_any k1 p1 z1 A1 c1 page _ hbd.1 hbd.2).mono ?_
        rintro e w2 ⟨A2, c2, rfl, ho2, hb2⟩
        have hb' := hb.trans (hb2.mono (by omega))
        have hr3 := hr2.st hb2
        have sz2 := hb'.size
        clear hb a0 a1 a2
        go_wp2_with fail
        refine (shifted_any ss A c (pageL k1 page) A2 c2 1 _ hr3 ho2.rd' (by rw [pageL_len]; exact q3) (by omega) hall (pageL_bd _ _) (.inl rfl)).mono ?_
        rintro e w3 ⟨A3, c3, rfl, ho3, hb3⟩
        have hb'' := hb'.trans (hb3.mono (by omega))
        clear hb' hb3 hb2
        go_wp2
        go_ret2
        exact ⟨A3, c3, rfl, ho3.mono (by omega) (Nat.le_refl _), by rw [hlen.out]; omega, hb''⟩
    · have hq := show hsB k1 p1 z1 page ss = false by simp [hsB, q3]
      rw [hsL_no hq, hq]
      clear hq
      go_enter Tryz.func30, Tryz.ntmps30
      go_wp2_with (go_at_call 86; (with_reducible refine (isPage_v k1 p1 z1 A1 c1 page _ (hr1.alloc _) hl1 _ q).mono ?_); rintro e w1 ⟨rfl, hb1⟩)
      go_ret2
      (first | exact ⟨none, 0, rfl, Own.nil, by simp, ((Below.refl w.heap.size w).alloc (Nat.le_refl _) _).trans (hb1.mono (by simp))⟩ | exact ⟨none, 0, rfl, Own.nil, ((Below.refl w.heap.size w).alloc (Nat.le_refl _) _).trans (hb1.mono (by simp))⟩)

set_option maxHeartbeats 1000000 in
theorem sShowSignals_any (k1 p1 : Int) (z1 : List Int) (A1 : Option Addr) (c1 : Nat) (page : Int) (ss : List Int) (A : Option Addr) (c : Nat) {l1 h1 l h : Nat} (w : World) (hr1 : Rd w l1 h1 A1 z1) (hr : Rd w l h A ss) (hl1 : z1.length ≤ 1048576) (hl : ss.length ≤ 1048576) :
    Calls Tryz.prog 34 #[.agg #[.int .i64 k1, .int .i64 p1, .slice A1 z1.length c1], .int .i64 page, .slice A ss.length c] w fun e w' => ∃ A c, e = .returned (.tuple #[.slice A (hsL (-1) k1 p1 z1 page ss).length c, .bool (hsB k1 p1 z1 page ss)]) ∧
      Rd w' 0 w'.heap.size A (hsL (-1) k1 p1 z1 page ss) ∧ (hsL (-1) k1 p1 z1 page ss).length ≤ 1048576 ∧ Below w.heap.size w w' := by
  cases q : hsB k1 p1 z1 page ss with
  | false =>
    rw [hsL_no q]
    go_enter Tryz.func34, Tryz.ntmps34
    go_wp2_with (go_at_call 111; (with_reducible refine (scPage_v k1 p1 z1 A1 c1 page ss A c _ (hr1.alloc _) (hr.alloc _) hl1 hl _ q).mono ?_); rintro e w1 ⟨rfl, hb1⟩)
    go_ret2
    exact ⟨none, 0, rfl, Rd.nil, by simp, ((Below.refl w.heap.size w).alloc (Nat.le_refl _) _).trans (hb1.mono (by simp))⟩
  | true =>
    rw [hsL_yes q]
    have q' := q
    simp only [hsB, Bool.and_eq_true, decide_eq_true_eq] at q'
    have hbd := pgB_bd q'.1
    have hl20 := q'.2.1
    have hall := allB_iff.1 q'.2.2
    have hlen := Lib.hid (shL_len ss (pageL k1 page) (-1) (by rw [pageL_len]; exact hl20))
    clear q'
    go_enter Tryz.func34, Tryz.ntmps34
    go_wp2_with fail
    (with_reducible refine (scPage_v k1 p1 z1 A1 c1 page ss A c _ (hr1.alloc _) (hr.alloc _) hl1 hl _ q).mono ?_)
    rintro e w1 ⟨rfl, hb1⟩
    have hb := ((Below.refl w.heap.size w).alloc (Nat.le_refl _) _).trans (hb1.mono (by simp))
    have b1 := (Bk.new w _ _).st hb1
    have a0 := b1.cell 0
    have a1 := b1.cell 1
    have a2 := b1.cell 2
    simp at a0 a1 a2
    have s1 : w.heap.size + 1 ≤ w1.heap.size := by have := hb1.size; simpa using this
    have hr2 := (hr.alloc (.cells #[.int .i64 k1, .int .i64 p1, .slice A1 z1.length c1] 26)).st hb1
    clear hb1 b1
    go_wp2_with fail
    refine (kyPage_any k1 p1 z1 A1 c1 page _ hbd.1 hbd.2).mono ?_
    rintro e w2 ⟨A2, c2, rfl, ho2, hb2⟩
    have hb' := hb.trans (hb2.mono (by omega))
    have hr3 := hr2.st hb2
    have sz2 := hb'.size
    clear hb a0 a1 a2
    go_wp2_with fail
    refine (scAdd_any ss A c (pageL k1 page) A2 c2 (-1) _ hr3 ho2.rd' (by rw [pageL_len]; exact hl20) (by omega) hall (pageL_bd _ _) (.inr rfl)).mono ?_
    rintro e w3 ⟨A3, c3, rfl, ho3, hb3⟩
    have hb'' := hb'.trans (hb3.mono (by omega))
    clear hb' hb3 hb2
    go_wp2
    go_ret2
    exact ⟨A3, c3, rfl, ho3.rd'.std, by rw [hlen.out]; omega, hb''⟩
set_option maxHeartbeats 1000000 in
theorem iShowSignals_any (k1 p1 : Int) (z1 : List Int) (A1 : Option Addr) (c1 : Nat) (page : Int) (ss : List Int) (A : Option Addr) (c : Nat) {l1 h1 l h : Nat} (w : World) (hr1 : Rd w l1 h1 A1 z1) (hr : Rd w l h A ss) (hl1 : z1.length ≤ 1048576) (hl : ss.length ≤ 1048576) :
    Calls Tryz.prog 33 #[.agg #[.int .i64 k1, .int .i64 p1, .slice A1 z1.length c1], .int .i64 page, .slice A ss.length c] w fun e w' => ∃ A c, e = .returned (.tuple #[.slice A (hsL (-1) k1 p1 z1 page ss).length c, .bool (hsB k1 p1 z1 page ss)]) ∧
      Own w' w.heap.size w'.heap.size (.slice A (hsL (-1) k1 p1 z1 page ss).length c) (hsL (-1) k1 p1 z1 page ss) ∧ (hsL (-1) k1 p1 z1 page ss).length ≤ 1048576 ∧ Below w.heap.size w w' := by
  cases q : pgB k1 p1 z1 page with
  | false =>
    have hq := show hsB k1 p1 z1 page ss = false by simp [hsB, q]
    rw [hsL_no hq, hq]
    clear hq
    go_enter Tryz.func33, Tryz.ntmps33
    go_wp2_with (go_at_call 86; (with_reducible refine (isPage_v k1 p1 z1 A1 c1 page _ (hr1.alloc _) hl1 _ q).mono ?_); rintro e w1 ⟨rfl, hb1⟩)
    go_ret2
    (first | exact ⟨none, 0, rfl, Own.nil, by simp, ((Below.refl w.heap.size w).alloc (Nat.le_refl _) _).trans (hb1.mono (by simp))⟩ | exact ⟨none, 0, rfl, Own.nil, ((Below.refl w.heap.size w).alloc (Nat.le_refl _) _).trans (hb1.mono (by simp))⟩)
  | true =>
    by_cases q3 : ss.length ≤ 20
    · cases q4 : allB ss 1 60 with
      | false =>
        have hq := show hsB k1 p1 z1 page ss = false by simp [hsB, q4]
        rw [hsL_no hq, hq]
        clear hq
        go_enter Tryz.func33, Tryz.ntmps33
        go_wp2_with (go_at_call 86; (with_reducible refine (isPage_v k1 p1 z1 A1 c1 page _ (hr1.alloc _) hl1 _ q).mono ?_); rintro e w1 ⟨rfl, hb1⟩)
        all_goals skip
        have hr2 := (hr.alloc (.cells #[.int .i64 k1, .int .i64 p1, .slice A1 z1.length c1] 26)).st hb1
        go_wp2_with (go_at_call 80; (with_reducible refine (allWithin_v ss A c _ _ _ hr2 (by omega) _ q4).mono ?_); rintro e w' ⟨rfl, rfl⟩)
        go_ret2
        (first | exact ⟨none, 0, rfl, Own.nil, by simp, ((Below.refl w.heap.size w).alloc (Nat.le_refl _) _).trans (hb1.mono (by simp))⟩ | exact ⟨none, 0, rfl, Own.nil, ((Below.refl w.heap.size w).alloc (Nat.le_refl _) _).trans (hb1.mono (by simp))⟩)
      | true =>
        have hq := show hsB k1 p1 z1 page ss = true by simp [hsB, q, q3, q4]
        rw [hsL_yes hq, hq]
        have hbd := pgB_bd q
        have hall := allB_iff.1 q4
        have hlen := Lib.hid (shL_len ss (pageL k1 page) (-1) (by rw [pageL_len]; exact q3))
        clear hq
        go_enter Tryz.func33, Tryz.ntmps33
        go_wp2_with fail
        (with_reducible refine (isPage_v k1 p1 z1 A1 c1 page _ (hr1.alloc _) hl1 _ q).mono ?_)
        rintro e w1 ⟨rfl, hb1⟩
        have hb := ((Below.refl w.heap.size w).alloc (Nat.le_refl _) _).trans (hb1.mono (by simp))
        have b1 := (Bk.new w _ _).st hb1
        have a0 := b1.cell 0
        have a1 := b1.cell 1
        have a2 := b1.cell 2
        simp at a0 a1 a2
        have s1 : w.heap.size + 1 ≤ w1.heap.size := by have := hb1.size; simpa using this
        have hr2 := (hr.alloc (.cells #[.int .i64 k1, .int .i64 p1, .slice A1 z1.length c1] 26)).st hb1
        clear hb1 b1
        go_wp2_with (go_at_call 80; (with_reducible refine (allWithin_v ss A c _ _ _ hr2 (by omega) _ q4).mono ?_); rintro e w' ⟨rfl, rfl⟩)
        refine (pageOf_any k1 p1 z1 A1 c1 page _ hbd.1 hbd.2).mono ?_
        rintro e w2 ⟨A2, c2, rfl, ho2, hb2⟩
        have hb' := hb.trans (hb2.mono (by omega))
        have hr3 := hr2.st hb2
        have sz2 := hb'.size
        clear hb a0 a1 a2
        go_wp2_with fail
        refine (shifted_any ss A c (pageL k1 page) A2 c2 (-1) _ hr3 ho2.rd' (by rw [pageL_len]; exact q3) (by omega) hall (pageL_bd _ _) (.inr rfl)).mono ?_
        rintro e w3 ⟨A3, c3, rfl, ho3, hb3⟩
        have hb'' := hb'.trans (hb3.mono (by omega))
        clear hb' hb3 hb2
        go_wp2
        go_ret2
        exact ⟨A3, c3, rfl, ho3.mono (by omega) (Nat.le_refl _), by rw [hlen.out]; omega, hb''⟩
    · have hq := show hsB k1 p1 z1 page ss = false by simp [hsB, q3]
      rw [hsL_no hq, hq]
      clear hq
      go_enter Tryz.func33, Tryz.ntmps33
      go_wp2_with (go_at_call 86; (with_reducible refine (isPage_v k1 p1 z1 A1 c1 page _ (hr1.alloc _) hl1 _ q).mono ?_); rintro e w1 ⟨rfl, hb1⟩)
      go_ret2
      (first | exact ⟨none, 0, rfl, Own.nil, by simp, ((Below.refl w.heap.size w).alloc (Nat.le_refl _) _).trans (hb1.mono (by simp))⟩ | exact ⟨none, 0, rfl, Own.nil, ((Below.refl w.heap.size w).alloc (Nat.le_refl _) _).trans (hb1.mono (by simp))⟩)
end Go.Proofs.YtjhbffndiaggmaaGreatDoor

/-
  Contracts of the numbers of several pages, and of signals moved on by them, in the reference and in the program. The conditions are bounds on lengths.
-/
namespace Go.Proofs.YtjhbffndiaggmaaGreatDoor
open Go.RowKit Go.ChangeShapes Go.WideShapes
set_option linter.unusedVariables false
set_option linter.unusedSimpArgs false

/-- the numbers of pages, one after the other -/
def numsL (key : Int) (ps : List Int) : List Int := ps.flatMap (pageL key)
theorem numsL_len (key : Int) (ps : List Int) : (numsL key ps).length = 20 * ps.length := by
  induction ps with
  | nil => rfl
  | cons p ps ih => simp only [numsL, List.flatMap_cons, List.length_append, pageL_len, List.length_cons] at ih ⊢; omega
theorem numsL_append (key : Int) (ps qs : List Int) : numsL key (ps ++ qs) = numsL key ps ++ numsL key qs := by simp [numsL]
theorem numsL_take (key : Int) (ps : List Int) (k : Nat) (h : k < ps.length) : numsL key (ps.take (k + 1)) = numsL key (ps.take k) ++ pageL key ps[k] := by
  rw [List.take_succ_eq_append_getElem h, numsL_append]; simp [numsL]
theorem numsL_bd (key : Int) (ps : List Int) : ∀ k (_ : k < (numsL key ps).length), 0 ≤ (numsL key ps)[k] ∧ (numsL key ps)[k] ≤ 59 := by
  intro k hk
  have hm : (numsL key ps)[k] ∈ numsL key ps := List.getElem_mem hk
  simp only [numsL, List.mem_flatMap] at hm
  obtain ⟨p, _, hp⟩ := hm
  obtain ⟨j, hj, e⟩ := List.getElem_of_mem hp
  have := pageL_bd key p j hj
  rw [e] at this
  exact this
theorem numsL_split (key : Int) (ps : List Int) (k : Nat) (h : k < ps.length) : ((numsL key ps).drop (20 * k)).take 20 = pageL key ps[k] := by
  have e : numsL key ps = numsL key (ps.take k) ++ (pageL key ps[k] ++ numsL key (ps.drop (k + 1))) := by
    rw [← List.append_assoc, ← numsL_take key ps k h, ← numsL_append, List.take_append_drop]
  have hl : (numsL key (ps.take k)).length = 20 * k := by rw [numsL_len, List.length_take, Nat.min_eq_left (by omega)]
  rw [e, List.drop_left' hl, List.take_left' (pageL_len key _)]
theorem shL_take (ss ns : List Int) (by_ : Int) (n : Nat) : (shL ss ns by_).take n = shL (ss.take n) (ns.take n) by_ := by simp [shL, List.take_zipWith]
theorem shL_drop (ss ns : List Int) (by_ : Int) (n : Nat) : (shL ss ns by_).drop n = shL (ss.drop n) (ns.drop n) by_ := by simp [shL, List.drop_zipWith]
def saTo (ss : List Int) (key : Int) (ps : List Int) (by_ : Int) (k : Nat) : List Int := (shL ss (numsL key ps) by_).take (20 * k)
theorem saTo_zero (ss : List Int) (key : Int) (ps : List Int) (by_ : Int) : saTo ss key ps by_ 0 = [] := by simp [saTo]
theorem saTo_succ (ss : List Int) (key : Int) (ps : List Int) (by_ : Int) (k : Nat) (h : k < ps.length) : saTo ss key ps by_ (k + 1) = saTo ss key ps by_ k ++ shL ((ss.drop (20 * k)).take 20) (pageL key ps[k]) by_ := by
  unfold saTo
  have e1 : (shL ss (numsL key ps) by_).drop (20 * k) = shL (ss.drop (20 * k)) ((numsL key ps).drop (20 * k)) by_ := shL_drop _ _ _ _
  rw [show 20 * (k + 1) = 20 * k + 20 from by omega, List.take_add, e1]
  congr 1
  rw [shL_take, numsL_split key ps k h]
theorem saTo_all (ss : List Int) (key : Int) (ps : List Int) (by_ : Int) : saTo ss key ps by_ ps.length = shL ss (numsL key ps) by_ := by
  unfold saTo
  rw [List.take_of_length_le]
  rw [← numsL_len key ps]; simp [shL]; omega
theorem saTo_len (ss : List Int) (key : Int) (ps : List Int) (by_ : Int) (k : Nat) : (saTo ss key ps by_ k).length ≤ ss.length := by
  unfold saTo; rw [List.length_take]; simp [shL]; omega

theorem wrap_nat (a : Nat) (h : a < 9223372036854775808) : IntKind.i64.wrap (a : Int) = (a : Int) := by
  exact Go.IntWalk.i64_in _ (by omega)
theorem l1Least_v (a b : Int) (w : World) (v : Int) (hv : (if a < b then a else b) = v) :
    Calls Tryz.prog 217 #[.int .i64 a, .int .i64 b] w fun e w' => e = .returned (.int .i64 v) ∧ w = w' := by
  by_cases h : a < b
  · rw [if_pos h] at hv
    subst hv
    go_enter Tryz.func217, Tryz.ntmps217
    go_wp2
    go_ret
    exact ⟨rfl, rfl⟩
  · rw [if_neg h] at hv
    subst hv
    go_enter Tryz.func217, Tryz.ntmps217
    go_wp2
    go_ret
    exact ⟨rfl, rfl⟩
theorem scAdd_n (ss : List Int) (n : Nat) (A : Option Addr) (c : Nat) (ns : List Int) (A' : Option Addr) (c' : Nat) (by_ : Int) {l h l' h' : Nat} (w : World) (hn0 : n = ss.length) (hr0 : Rd w l h A ss) (hr0' : Rd w l' h' A' ns) (hl : ss.length ≤ ns.length) (hl2 : n ≤ 1000000)
    (ha : ∀ k (_ : k < ss.length), 1 ≤ ss[k] ∧ ss[k] ≤ 60) (hn : ∀ k (_ : k < ns.length), 0 ≤ ns[k] ∧ ns[k] ≤ 59) (hb : by_ = 1 ∨ by_ = -1) :
    Calls Tryz.prog 112 #[.slice A' ns.length c', .slice A n c, .int .i64 by_] w fun e w' => ∃ A2 c2, e = .returned (.slice A2 (shL ss ns by_).length c2) ∧ Own w' w.heap.size w'.heap.size (.slice A2 (shL ss ns by_).length c2) (shL ss ns by_) ∧ Below w.heap.size w w' := by
  subst hn0; exact scAdd_any ss A c ns A' c' by_ w hr0 hr0' hl (by omega) ha hn hb
theorem rd_part {w : World} {lo hi b off : Nat} {zs : List Int} (h : Rd w lo hi (some ⟨b, off, none⟩) zs) (a n : Nat) : Rd w lo hi (some ⟨b, off + a, none⟩) ((zs.drop a).take n) := fun hp => by
  rw [List.length_take, List.length_drop] at hp
  obtain ⟨b', off', e, a1, a2, hc⟩ := h (by omega)
  obtain rfl : b = b' := congrArg Addr.block (Option.some.inj e)
  obtain rfl : off = off' := congrArg Addr.off (Option.some.inj e)
  refine ⟨_, _, rfl, a1, a2, fun j hj => ?_⟩
  rw [List.length_take, List.length_drop] at hj
  rw [List.getElem_take, List.getElem_drop, Nat.add_assoc]
  exact hc (a + j) (by omega)
set_option maxHeartbeats 2000000 in
theorem scAll_any (k1 p1 : Int) (us : List Int) (A1 : Option Addr) (c1 : Nat) (ps : List Int) (Ap : Option Addr) (cp : Nat) (ss : List Int) (As : Option Addr) (cs : Nat) (by_ : Int) {l h l' h' : Nat} (w : World) (hr0 : Rd w l h Ap ps) (hs0 : Rd w l' h' As ss) (hk1 : 0 ≤ k1 ∧ k1 ≤ 1000000000) (hps : ∀ k (_ : k < ps.length), 0 ≤ ps[k] ∧ ps[k] ≤ 59)
    (hss : ∀ k (_ : k < ss.length), 1 ≤ ss[k] ∧ ss[k] ≤ 60) (hl : ps.length ≤ 10000) (h1 : 20 * ps.length < ss.length + 20) (h2 : ss.length ≤ 20 * ps.length) (hcap : ss.length ≤ cs) (hby : by_ = 1 ∨ by_ = -1) :
    Calls Tryz.prog 188 #[.agg #[.int .i64 k1, .int .i64 p1, .slice A1 us.length c1], .slice Ap ps.length cp, .slice As ss.length cs, .int .i64 by_] w fun e w' => ∃ A c, e = .returned (.slice A (shL ss (numsL k1 ps) by_).length c) ∧ Own w' w.heap.size w'.heap.size (.slice A (shL ss (numsL k1 ps) by_).length c) (shL ss (numsL k1 ps) by_) ∧ Below w.heap.size w w' := by
  have hr := hr0.std
  have hs := hs0.std
  clear hr0 hs0
  go_enter Tryz.func188, Tryz.ntmps188
  go_wp2
  go_loopw [9, 10, 11, 12, 15] (fun v _ _ _ i wr => ∃ k : Nat, k ≤ ps.length ∧ i = .int .i64 k ∧ Own wr (w.heap.size + 1) wr.heap.size v (saTo ss k1 ps by_ k) ∧
      Bk wr w.heap.size 26 #[.int .i64 k1, .int .i64 p1, .slice A1 us.length c1] ∧ Below w.heap.size w wr ∧ w.heap.size + 1 ≤ wr.heap.size) (fun _ _ _ _ i _ => ps.length - (intOf i).toNat)
  case atStart => exact ⟨0, Nat.zero_le _, rfl, Own.nil, Bk.new w _ _, (Below.refl _ _).alloc (Nat.le_refl _) _, by simp⟩
  case round =>
    obtain ⟨k, hk, rfl, hown, hbk, hbr, hsr⟩ := hrel
    by_cases hlt : k < ps.length
    · obtain ⟨b, off, rfl, _, _, hc⟩ := (hr.below hbr (Nat.le_refl _)) (by omega)
      have hsw := hs.below hbr (Nat.le_refl _)
      obtain ⟨bs, os, rfl, _, _, _⟩ := hsw (by omega)
      have x0 := hc k hlt
      have hpk := hps k hlt
      obtain ⟨a, ha⟩ : ∃ a : Nat, a = 20 * k := ⟨_, rfl⟩
      have hst := Lib.hid (saTo_succ ss k1 ps by_ k hlt)
      rw [← ha] at hst
      have hm : (k : Int) * 20 = (a : Int) := by omega
      have hal : a < ss.length := by omega
      obtain ⟨e, he, e1, e2⟩ : ∃ e : Nat, (if (ss.length : Int) < ((k : Int) + 1) * 20 then (ss.length : Int) else ((k : Int) + 1) * 20) = (e : Int) ∧ a ≤ e ∧ e ≤ ss.length ∧ e - a = ((ss.drop a).take 20).length := by
        rw [List.length_take, List.length_drop]
        by_cases hx : (ss.length : Int) < ((k : Int) + 1) * 20
        · exact ⟨ss.length, by rw [if_pos hx], by omega, by omega, by omega⟩
        · exact ⟨20 * (k + 1), by rw [if_neg hx]; omega, by omega, by omega, by omega⟩
      obtain ⟨e2, hn'⟩ := e2
      have hss' := rd_part hsw a 20
      have hl' : ((ss.drop a).take 20).length ≤ (pageL k1 ps[k]).length := by rw [pageL_len, List.length_take]; omega
      have ha' : ∀ j (_ : j < ((ss.drop a).take 20).length), 1 ≤ ((ss.drop a).take 20)[j] ∧ ((ss.drop a).take 20)[j] ≤ 60 := fun j hj => by
        rw [List.getElem_take, List.getElem_drop]; exact hss _ _
      have hnl := saTo_len ss k1 ps by_ k
      have hsl : (shL ((ss.drop a).take 20) (pageL k1 ps[k]) by_).length ≤ 20 := by rw [shL_len _ _ _ hl', List.length_take]; omega
      have hcat : (saTo ss k1 ps by_ k).length + (shL ((ss.drop a).take 20) (pageL k1 ps[k]) by_).length ≤ 1099511627776 := by omega
      have hsr' : w.heap.size ≤ wr.heap.size := by omega
      have y0_0 := hbk.cell 0
      have y0_1 := hbk.cell 1
      have y0_2 := hbk.cell 2
      have hbl := hbk.lt
      simp at y0_0 y0_1 y0_2
      have hw : IntKind.i64.wrap (a : Int) = (a : Int) := wrap_nat a (by omega)
      have hec : e ≤ cs := by omega
      have hac : (cs = a) = False := by simp; omega
      have haH := Lib.hid ha
      have hn'H := Lib.hid hn'
      clear hc hnl hsl ha hn'
      go_wp2_with (go_at_call 217; (with_reducible refine (l1Least_v _ _ _ _ he).mono ?_); rintro e w' ⟨rfl, rfl⟩)
      refine wp_region_held_drew (S := (fun w' => w'.cell? ⟨w.heap.size, 0, none⟩ = some (.int .i64 k1) ∧ w'.cell? ⟨w.heap.size, 1, none⟩ = some (.int .i64 p1) ∧ w'.cell? ⟨w.heap.size, 2, none⟩ = some (.slice A1 us.length c1))) (by kernel_rfl) ?_ (fun hHeld => ?_)
      · (try dsimp only); (refine ⟨?_, ?_, ?_⟩ <;> assumption)
      refine wpAnyH_take (i := 0) (oi := ⟨(some 26), _, _, _, _, _⟩) (v := ?_) rfl (by kernel_rfl) (by kernel_rfl) (by kernel_rfl) (fun _ _ _ h => h) (Or.inl ⟨by rfl, ?hv1⟩) (by assumption) ?hn1
      case hv1 => (intro w hSw; (try dsimp only at hSw); (first | (go_simp; done) | (go_simp; with_reducible rfl)))
      try simp only [Act.put, List.setIfInBounds_toArray, List.set_cons_zero, List.set_cons_succ]
      refine wpAnyH_take (i := 1) (oi := ⟨(some 27), _, _, _, _, _⟩) (v := ?_) rfl (by kernel_rfl) (by kernel_rfl) (by kernel_rfl) (fun _ _ _ h => h) (Or.inl ⟨by rfl, ?hv2⟩) (by assumption) ?hn2
      case hv2 => (intro w hSw; (try dsimp only at hSw); (first | (go_simp; done) | (go_simp; with_reducible rfl)))
      try simp only [Act.put, List.setIfInBounds_toArray, List.set_cons_zero, List.set_cons_succ]
      refine wpAnyH_take (i := 2) (oi := ⟨(some 28), _, _, _, _, _⟩) (v := ?_) rfl (by kernel_rfl) (by kernel_rfl) (by kernel_rfl) (fun _ _ _ h => h) (Or.inl ⟨by rfl, ?hv3⟩) (by assumption) ?hn3
      case hv3 => (intro w hSw; (try dsimp only at hSw); (first | (go_simp; done) | (go_simp; with_reducible rfl)))
      try simp only [Act.put, List.setIfInBounds_toArray, List.set_cons_zero, List.set_cons_succ]
      refine wpAnyH_take (i := 4) (oi := ⟨(some 30), _, _, _, _, _⟩) (v := ?_) rfl (by kernel_rfl) (by kernel_rfl) (by kernel_rfl) (fun _ _ _ h => h) (Or.inl ⟨by rfl, ?hv4⟩) (by assumption) ?hn4
      case hv4 => (intro w hSw; (try dsimp only at hSw); (first | (go_simp; done) | (go_simp; with_reducible rfl)))
      try simp only [Act.put, List.setIfInBounds_toArray, List.set_cons_zero, List.set_cons_succ]
      refine wpAnyH_take (i := 5) (oi := ⟨(some 31), _, _, _, _, _⟩) (v := ?_) rfl (by kernel_rfl) (by kernel_rfl) (by kernel_rfl) (fun _ _ _ h => h) (Or.inl ⟨by rfl, ?hv5⟩) (by assumption) ?hn5
      case hv5 => (intro w hSw; (try dsimp only at hSw); (first | (go_simp; done) | (go_simp; with_reducible rfl)))
      try simp only [Act.put, List.setIfInBounds_toArray, List.set_cons_zero, List.set_cons_succ]
      refine wpAnyH_take (i := 6) (oi := ⟨(some 32), _, _, _, _, _⟩) (v := ?_) rfl (by kernel_rfl) (by kernel_rfl) (by kernel_rfl) (fun _ _ _ h => h) (Or.inl ⟨by rfl, ?hv6⟩) (by assumption) ?hn6
      case hv6 => (intro w hSw; (try dsimp only at hSw); (first | (go_simp; done) | (go_simp; with_reducible rfl)))
      try simp only [Act.put, List.setIfInBounds_toArray, List.set_cons_zero, List.set_cons_succ]
      refine wpAnyH_take (i := 7) (oi := ⟨(some 33), _, _, _, _, _⟩) (v := ?_) rfl (by kernel_rfl) (by kernel_rfl) (by kernel_rfl) (fun _ _ _ h => h) (Or.inl ⟨by rfl, ?hv7⟩) (by assumption) ?hn7
      case hv7 => (intro w hSw; (try dsimp only at hSw); (first | (go_simp; done) | (go_simp; with_reducible rfl)))
      try simp only [Act.put, List.setIfInBounds_toArray, List.set_cons_zero, List.set_cons_succ]
      refine wpAnyH_take (i := 8) (oi := ⟨(some 34), _, _, _, _, _⟩) (v := ?_) rfl (by kernel_rfl) (by kernel_rfl) (by kernel_rfl) (fun _ _ _ h => h) (Or.inl ⟨by rfl, ?hv8⟩) (by assumption) ?hn8
      case hv8 => (intro w hSw; (try dsimp only at hSw); (first | (go_simp; done) | (go_simp; with_reducible rfl)))
      try simp only [Act.put, List.setIfInBounds_toArray, List.set_cons_zero, List.set_cons_succ]
      refine wpAnyH_take (i := 9) (oi := ⟨(some 35), _, _, _, _, _⟩) (v := ?_) rfl (by kernel_rfl) (by kernel_rfl) (by kernel_rfl) (fun _ _ _ h => h) (Or.inl ⟨by rfl, ?hv9⟩) (by assumption) ?hn9
      case hv9 => (intro w hSw; (try dsimp only at hSw); (first | (go_simp; done) | (go_simp; with_reducible rfl)))
      try simp only [Act.put, List.setIfInBounds_toArray, List.set_cons_zero, List.set_cons_succ]
      refine wpAnyH_ready (rs := [3]) (by kernel_rfl) (by simp) ?_
      refine AllReadyH.cons (o := ⟨(some 29), _, _, _, _, _⟩) rfl (fun K hK => ?_) AllReadyH.nil
      go_simp
      (with_reducible refine (kyPage_any k1 p1 us A1 c1 ps[k] _ hk1 hpk).mono ?_)
      rintro e w3 ⟨A3, c3, rfl, o3, hb3⟩
      have s3 : wr.heap.size ≤ w3.heap.size := hb3.size
      have bk3 := (hbk.drew).st hb3
      have hB3 : Below w.heap.size w w3 := (hbr.drew).trans (hb3.mono hsr')
      have ho3 := (hown.drew).st hb3
      have hs3 := (hss'.drew).st hb3
      have y3_0 := bk3.cell 0
      have y3_1 := bk3.cell 1
      have y3_2 := bk3.cell 2
      simp at y3_0 y3_1 y3_2
      refine hK.out _ _ ?_ (fun hHeld3 => ?_)
      · (try dsimp only); (refine ⟨?_, ?_, ?_⟩ <;> assumption)
      clear hK K
      try simp only [Act.put, List.setIfInBounds_toArray, List.set_cons_zero, List.set_cons_succ]
      refine wpAnyH_ready (rs := [10]) (by kernel_rfl) (by simp) ?_
      refine AllReadyH.cons (o := ⟨(some 36), _, _, _, _, _⟩) rfl (fun K hK => ?_) AllReadyH.nil
      go_simp
      (with_reducible refine (scAdd_n ((ss.drop a).take 20) _ _ _ (pageL k1 ps[k]) A3 c3 by_ _ hn'H.out hs3 o3.rd' hl' (by have := hn'H.out; rw [List.length_take, List.length_drop] at this; omega) ha' (pageL_bd k1 ps[k]) hby).mono ?_)
      rintro e w4 ⟨A4, c4, rfl, o4, hb4⟩
      have s4 : w3.heap.size ≤ w4.heap.size := hb4.size
      have bk4 := bk3.st hb4
      have hB4 : Below w.heap.size w w4 := hB3.trans (hb4.mono (by omega))
      have ho4 := ho3.st hb4
      have y4_0 := bk4.cell 0
      have y4_1 := bk4.cell 1
      have y4_2 := bk4.cell 2
      simp at y4_0 y4_1 y4_2
      refine hK.out _ _ ?_ (fun hHeld10 => ?_)
      · (try dsimp only); (refine ⟨?_, ?_, ?_⟩ <;> assumption)
      clear hK K
      try simp only [Act.put, List.setIfInBounds_toArray, List.set_cons_zero, List.set_cons_succ]
      refine wpAnyH_ready (rs := [11]) (by kernel_rfl) (by simp) ?_
      refine AllReadyH.cons (o := ⟨(some 37), _, _, _, _, _⟩) rfl (fun K hK => ?_) AllReadyH.nil
      skip
      refine step_append_ints rfl (.tmp 26) (.tmp 36) rfl rfl ho4 rfl o4.rd'.std hcat (by omega) ?_
      intro v5 w5 o5 g5 hb5 hat5
      have s5 : w4.heap.size ≤ w5.heap.size := g5.size
      have bk5 := bk4.below hb5 (by omega)
      have hB5 : Below w.heap.size w w5 := hB4.trans (hb5.mono (by omega))
      have y5_0 := bk5.cell 0
      have y5_1 := bk5.cell 1
      have y5_2 := bk5.cell 2
      simp at y5_0 y5_1 y5_2
      refine hK.out _ _ ?_ (fun hHeld11 => ?_)
      · (try dsimp only); (refine ⟨?_, ?_, ?_⟩ <;> assumption)
      clear hK K
      try simp only [Act.put, List.setIfInBounds_toArray, List.set_cons_zero, List.set_cons_succ]
      refine wpAnyH_take (i := 12) (oi := ⟨(some 9), _, _, _, _, _⟩) (v := ?_) rfl (by kernel_rfl) (by kernel_rfl) (by kernel_rfl) (fun _ _ _ h => h) (Or.inl ⟨by rfl, ?hv10⟩) (by assumption) ?hn10
      case hv10 => (intro w hSw; (try dsimp only at hSw); (first | (go_simp; done) | (go_simp; with_reducible rfl)))
      try simp only [Act.put, List.setIfInBounds_toArray, List.set_cons_zero, List.set_cons_succ]
      refine wpAnyH_done (by kernel_rfl) ?_ _
      have ho5 := Lib.hid o5
      have hB5H := Lib.hid hB5
      have bk5H := Lib.hid bk5
      clear o5 hB5 bk5 hown hbk hbr ho3 ho4 o3 o4 bk3 bk4 hB3 hB4
      go_wp2
      go_roundw
      case rel => exact ⟨k + 1, by omega, by go_num, by rw [hst.out]; exact ho5.out, bk5H.out, hB5H.out, by omega⟩
      case measure => simp [intOf]; omega
    · obtain rfl : k = ps.length := by omega
      rw [saTo_all] at hown
      obtain ⟨A, c, rfl, -, -⟩ := hown.rd
      have ho : Hid (Own wr w.heap.size wr.heap.size _ _) := hown.mono (by omega) (Nat.le_refl _)
      clear hown
      go_wp2
      go_ret
      exact ⟨_, _, rfl, ho.out, hbr⟩
end Go.Proofs.YtjhbffndiaggmaaGreatDoor
