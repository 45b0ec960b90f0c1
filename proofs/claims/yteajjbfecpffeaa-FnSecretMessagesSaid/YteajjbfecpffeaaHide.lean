/-
  Contracts of HideSignals and ShowSignals, in the reference and in the program. The conditions are bounds on lengths.
-/
import Derived.Test.YteajjbfecpffeaaKeyPage
import Derived.Test.YteajjbfecpffeaaPureS
namespace Go.Proofs.Yteajjbfecpffeaa
open Go.RowKit Go.ChangeShapes Go.WideShapes
set_option linter.unusedVariables false
set_option linter.unusedSimpArgs false

def hsB (k1 p1 : Int) (z1 : List Int) (page : Int) (ss : List Int) : Bool := pgB k1 p1 z1 page && (decide (ss.length ≤ 20) && allB ss 1 60)
def hsL (by_ : Int) (k1 p1 : Int) (z1 : List Int) (page : Int) (ss : List Int) : List Int := if hsB k1 p1 z1 page ss then shL ss (pageL k1 page) by_ else []
theorem hsL_no {by_ k1 p1 : Int} {z1 : List Int} {page : Int} {ss : List Int} (h : hsB k1 p1 z1 page ss = false) : hsL by_ k1 p1 z1 page ss = [] := by simp [hsL, h]
theorem hsL_yes {by_ k1 p1 : Int} {z1 : List Int} {page : Int} {ss : List Int} (h : hsB k1 p1 z1 page ss = true) : hsL by_ k1 p1 z1 page ss = shL ss (pageL k1 page) by_ := by simp [hsL, h]
theorem pageL_bd (key page : Int) : ∀ k (_ : k < (pageL key page).length), 0 ≤ (pageL key page)[k] ∧ (pageL key page)[k] ≤ 59 := fun k hk => by rw [pageL_at]; omega
theorem shL_take_succ (ss ns : List Int) (by_ : Int) (k : Nat) (h1 : k < ss.length) (h2 : k < ns.length) : (shL ss ns by_).take (k + 1) = (shL ss ns by_).take k ++ [shf ss[k] ns[k] by_] := by
  have hl : k < (shL ss ns by_).length := by simp [shL]; omega
  rw [List.take_succ_eq_append_getElem hl, shL_at ss ns by_ k h1 h2 hl]
theorem shL_tk_succ (ss ns : List Int) (by_ : Int) (k : Nat) (h1 : k < ss.length) (h2 : k < ns.length) : (tk (shL ss ns by_) k).set k (shf ss[k] ns[k] by_) = tk (shL ss ns by_) (k + 1) := by
  have hl : k < (shL ss ns by_).length := by simp [shL]; omega
  rw [← shL_at ss ns by_ k h1 h2 hl]; exact tk_succ _ _ hl
theorem by_mul {s n by_ : Int} (hs : 1 ≤ s ∧ s ≤ 60) (hn : 0 ≤ n ∧ n ≤ 59) (hb : by_ = 1 ∨ by_ = -1) : -59 ≤ by_ * n ∧ by_ * n ≤ 59 := by
  rcases hb with rfl | rfl <;> omega
theorem shf_tmod {s n by_ : Int} (hs : 1 ≤ s ∧ s ≤ 60) (hn : 0 ≤ n ∧ n ≤ 59) (hb : by_ = 1 ∨ by_ = -1) : -59 ≤ (s - 1 + by_ * n).tmod 60 ∧ (s - 1 + by_ * n).tmod 60 ≤ 59 := by
  have h1 := Int.tmod_lt_of_pos (s - 1 + by_ * n) (b := 60) (by omega)
  have h2 := Int.lt_tmod_of_pos (s - 1 + by_ * n) (b := 60) (by omega)
  omega

set_option maxHeartbeats 1000000 in
theorem shifted_any (ss : List Int) (A : Option Addr) (c : Nat) (ns : List Int) (A' : Option Addr) (c' : Nat) (by_ : Int) {l h l' h' : Nat} (w : World) (hr0 : Rd w l h A ss) (hr0' : Rd w l' h' A' ns) (hl : ss.length ≤ ns.length) (hl2 : ss.length ≤ 1000000)
    (ha : ∀ k (_ : k < ss.length), 1 ≤ ss[k] ∧ ss[k] ≤ 60) (hn : ∀ k (_ : k < ns.length), 0 ≤ ns[k] ∧ ns[k] ≤ 59) (hb : by_ = 1 ∨ by_ = -1) :
    Calls Try.prog 73 #[.slice A ss.length c, .slice A' ns.length c', .int .i64 by_] w fun e w' => ∃ A2 c2, e = .returned (.slice A2 (shL ss ns by_).length c2) ∧ Own w' w.heap.size w'.heap.size (.slice A2 (shL ss ns by_).length c2) (shL ss ns by_) ∧ Below w.heap.size w w' := by
  have hr := hr0.std
  have hr' := hr0'.std
  have hlen := shL_len ss ns by_ hl
  have hlenH := Lib.hid hlen
  clear hr0 hr0'
  go_enter Try.func73, Try.ntmps73
  go_wp2_with (at_make; refine wp_make_ints rfl _ _ rfl ss.length rfl rfl (by omega) ?_; intro w1 hown1 hb1 hs1)
  have ho1 : Hid (Own w1 w.heap.size (w.heap.size + 1) (.slice (some ⟨w.heap.size, 0, none⟩) ss.length ss.length) (tk (shL ss ns by_) 0)) := by
    show Own _ _ _ _ _
    rw [tk_zero, hlen]
    exact hown1.mono (Nat.le_refl _) (by omega)
  clear hown1 hlen
  have hs1H := Lib.hid hs1
  clear hs1
  go_loopw [8, 9, 15] (fun _ _ i wr => ∃ k : Nat, k ≤ ss.length ∧ i = .int .i64 k ∧ Own wr w.heap.size (w.heap.size + 1) (.slice (some ⟨w.heap.size, 0, none⟩) ss.length ss.length) (tk (shL ss ns by_) k) ∧ Below w.heap.size w wr ∧ wr.heap.size = w.heap.size + 1) (fun _ _ i _ => ss.length - (intOf i).toNat)
  case atStart => exact ⟨0, Nat.zero_le _, rfl, ho1.out, hb1, hs1H.out⟩
  case round =>
    clear ho1 hb1 hs1H
    obtain ⟨k, hk, rfl, hown, hbr, hsr⟩ := hrel
    by_cases hlt : k < ss.length
    · have hlt' : k < ns.length := by omega
      obtain ⟨b, off, rfl, _, _, hc⟩ := (hr.below hbr (Nat.le_refl _)) (by omega)
      obtain ⟨b', off', rfl, _, _, hc'⟩ := (hr'.below hbr (Nat.le_refl _)) (by omega)
      have x1 := hc k hlt
      have x2 := hc' k hlt'
      have bs := ha k hlt
      have bn := hn k hlt'
      have bm := by_mul bs bn hb
      have hst0 := shL_tk_succ ss ns by_ k hlt hlt'
      have hst := Lib.hid hst0
      have htl := tk_length (shL ss ns by_) k (by rw [hlenH.out]; omega)
      rw [hlenH.out] at htl
      obtain ⟨g, c', he, _, _, _, hcell, hfr⟩ := hown.at_ (by rw [htl]; omega)
      injection he with e1 e2 e3
      injection e1 with e1
      injection e1 with e1 e4
      subst e1
      have hf := hfr k
      obtain ⟨x, hcd⟩ : ∃ x, wr.cell? ⟨w.heap.size, k, none⟩ = some (.int .i64 x) := ⟨_, hcell k (by rw [htl]; omega)⟩
      have hst2 := Lib.hid (hown.stored (j := k) ((ss[k] - 1 + by_ * ns[k]) % 60 + 1))
      have hB3 := Lib.hid (hbr.setCell (p := ⟨w.heap.size, k, none⟩) (by dsimp only; omega) (.int .i64 ((ss[k] - 1 + by_ * ns[k]) % 60 + 1)))
      have hsH := Lib.hid hsr
      clear hcell hfr e2 e3 e4 hown hbr hc hc' hst0 htl hsr
      go_wp2
      go_roundw
      case rel => exact ⟨k + 1, by omega, by go_num, by rw [← hst.out]; exact hst2.out, hB3.out, by rw [size_setCell]; exact hsH.out⟩
      case measure => simp [intOf]; omega
    · obtain rfl : k = ss.length := by omega
      have hfin : Hid (tk (shL ss ns by_) ss.length = shL ss ns by_) := by show _ = _; rw [← hlenH.out]; exact tk_all _
      rw [hfin.out] at hown
      have ho : Hid (Own wr w.heap.size wr.heap.size (.slice (some ⟨w.heap.size, 0, none⟩) (shL ss ns by_).length ss.length) (shL ss ns by_)) := by rw [hlenH.out]; exact hown.mono (by omega) (by omega)
      clear hown
      go_wp2
      go_ret
      exact ⟨_, _, by rw [hlenH.out]; rfl, ho.out, hbr⟩

set_option maxHeartbeats 1000000 in
theorem scAdd_any (ss : List Int) (A : Option Addr) (c : Nat) (ns : List Int) (A' : Option Addr) (c' : Nat) (by_ : Int) {l h l' h' : Nat} (w : World) (hr0 : Rd w l h A ss) (hr0' : Rd w l' h' A' ns) (hl : ss.length ≤ ns.length) (hl2 : ss.length ≤ 1000000)
    (ha : ∀ k (_ : k < ss.length), 1 ≤ ss[k] ∧ ss[k] ≤ 60) (hn : ∀ k (_ : k < ns.length), 0 ≤ ns[k] ∧ ns[k] ≤ 59) (hb : by_ = 1 ∨ by_ = -1) :
    Calls Try.prog 116 #[.slice A' ns.length c', .slice A ss.length c, .int .i64 by_] w fun e w' => ∃ A2 c2, e = .returned (.slice A2 (shL ss ns by_).length c2) ∧ Own w' w.heap.size w'.heap.size (.slice A2 (shL ss ns by_).length c2) (shL ss ns by_) ∧ Below w.heap.size w w' := by
  have hr := hr0.std
  have hr' := hr0'.std
  have hlen := shL_len ss ns by_ hl
  have hlenH := Lib.hid hlen
  clear hr0 hr0' hlen
  go_enter Try.func116, Try.ntmps116
  go_wp2
  go_loopw [7, 8, 9, 12] (fun v _ _ i wr => ∃ k : Nat, k ≤ ss.length ∧ i = .int .i64 k ∧ Own wr w.heap.size wr.heap.size v ((shL ss ns by_).take k) ∧ Below w.heap.size w wr) (fun _ _ _ i _ => ss.length - (intOf i).toNat)
  case atStart => exact ⟨0, Nat.zero_le _, rfl, Own.nil, Below.refl _ _⟩
  case round =>
    obtain ⟨k, hk, rfl, hown, hbr⟩ := hrel
    have hszr := hbr.size
    by_cases hlt : k < ss.length
    · have hlt' : k < ns.length := by omega
      obtain ⟨b, off, rfl, _, _, hc⟩ := (hr.below hbr (Nat.le_refl _)) (by omega)
      obtain ⟨b', off', rfl, _, _, hc'⟩ := (hr'.below hbr (Nat.le_refl _)) (by omega)
      have x1 := hc k hlt
      have x2 := hc' k hlt'
      have bs := ha k hlt
      have bn := hn k hlt'
      have bm := by_mul bs bn hb
      have bt := shf_tmod bs bn hb
      have hval := Lib.hid ((by rw [← shf_spec bs bn hb, Int.add_emod_right]) : (ss[k] - 1 + by_ * ns[k]).tmod 60 % 60 + 1 = shf ss[k] ns[k] by_)
      have hst := Lib.hid (shL_take_succ ss ns by_ k hlt hlt')
      have hpl : Hid (((shL ss ns by_).take k).length = k) := by show _ = _; rw [List.length_take, hlenH.out]; omega
      clear hc hc'
      go_wp2_with (at_builtin; refine wp_append_ints rfl (.tmp 17) (.tmp 31) rfl rfl (hown.alloc _) (ys := [(ss[k] - 1 + by_ * ns[k]).tmod 60 % 60 + 1]) rfl ((Rd.one wr _ _ _ rfl).mono (Nat.zero_le _) (by simp)) (by rw [hpl.out]; simp; omega) (by simp; omega) ?_; intro v3 w3 hown3 hg3 hb3 hat3)
      have hB3 : Hid (Below w.heap.size w w3) := (hbr.alloc (by omega) _).trans (hb3.mono (by omega))
      have ho3 := Lib.hid hown3
      clear hown3 hg3 hb3 hat3 hown hbr
      go_roundw
      case rel => exact ⟨k + 1, by omega, by go_num, by rw [hst.out, ← hval.out]; exact ho3.out, hB3.out⟩
      case measure => simp [intOf]; omega
    · obtain rfl : k = ss.length := by omega
      have hfin : Hid ((shL ss ns by_).take ss.length = shL ss ns by_) := by show _ = _; rw [List.take_of_length_le (by rw [hlenH.out]; exact Nat.le_refl _)]
      rw [hfin.out] at hown
      obtain ⟨A, c, rfl, -, -⟩ := hown.rd
      have ho := Lib.hid hown
      clear hown
      go_wp2
      go_ret
      exact ⟨_, _, rfl, ho.out, hbr⟩

theorem isPage_v (k1 p1 : Int) (z1 : List Int) (A1 : Option Addr) (c1 : Nat) (page : Int) {l h : Nat} (w : World) (hr : Rd w l h A1 z1) (hl : z1.length ≤ 1048576) (v : Bool) (hv : pgB k1 p1 z1 page = v) :
    Calls Try.prog 119 #[.agg #[.int .i64 k1, .int .i64 p1, .slice A1 z1.length c1], .int .i64 page] w fun e w' => e = .returned (.bool v) ∧ Below w.heap.size w w' := by
  rw [← hv]; exact isPage_any k1 p1 z1 A1 c1 page w hr hl
theorem allWithin_v (zs : List Int) (A : Option Addr) (c : Nat) {l h : Nat} (lo hi : Int) (w : World) (hr : Rd w l h A zs) (hl : zs.length ≤ 9223372036854775807) (v : Bool) (hv : allB zs lo hi = v) :
    Calls Try.prog 71 #[.slice A zs.length c, .int .i64 lo, .int .i64 hi] w fun e w' => e = .returned (.bool v) ∧ w = w' := by
  rw [← hv]; exact allWithin_any zs A c lo hi w hr hl

theorem scContents_v (ss : List Int) (A : Option Addr) (c : Nat) {l h : Nat} (w : World) (hr : Rd w l h A ss) (hl : ss.length ≤ 1048576) (v : Bool) (hv : allB ss 1 60 = v) :
    Calls Try.prog 75 #[.slice A ss.length c] w fun e w' => e = .returned (.bool v) ∧ Below w.heap.size w w' := by
  subst hv
  go_enter Try.func75, Try.ntmps75
  go_wp2_with (go_at_call 111; refine (l1All_any ss A c _ _ _ hr (by omega)).mono ?_; rintro e w' ⟨rfl, rfl⟩)
  go_ret
  exact ⟨rfl, Below.refl _ _⟩



end Go.Proofs.Yteajjbfecpffeaa
