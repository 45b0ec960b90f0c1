/-
  Contracts on the pages of a key book. The conditions are bounds on lengths.
-/
import Derived.Test.YteajjbfecpffeaaKeyBook2
namespace Go.Proofs.Yteajjbfecpffeaa
open Go.RowKit Go.ChangeShapes Go.WideShapes
set_option linter.unusedVariables false

def pgB (k1 p1 : Int) (z1 : List Int) (page : Int) : Bool := kbB k1 p1 z1 && inB page 0 (p1 - 1)
def pageL (key page : Int) : List Int := (List.range 20).map fun k : Nat => mixL [key, page, (k : Int)] % 60
theorem pageL_len (key page : Int) : (pageL key page).length = 20 := by simp [pageL]
theorem pageL_at (key page : Int) (k : Nat) (h : k < (pageL key page).length) : (pageL key page)[k] = mixL [key, page, (k : Int)] % 60 := by simp [pageL]
def pgL (k1 p1 : Int) (z1 : List Int) (page : Int) : List Int := if pgB k1 p1 z1 page then pageL k1 page else []
def pageTo (key page : Int) (k : Nat) : List Int := (pageL key page).take k
theorem pageTo_succ (key page : Int) (k : Nat) (h : k < 20) : pageTo key page (k + 1) = pageTo key page k ++ [mixL [key, page, (k : Int)] % 60] := by
  unfold pageTo
  rw [List.take_succ_eq_append_getElem (by rw [pageL_len]; exact h), pageL_at]
theorem pgB_bd {k1 p1 : Int} {z1 : List Int} {page : Int} (h : pgB k1 p1 z1 page = true) : (0 ≤ k1 ∧ k1 ≤ 1000000000) ∧ 0 ≤ page ∧ page ≤ 59 := by
  simp only [pgB, kbB, Bool.and_eq_true, inB_iff] at h
  omega
theorem pageKeys {key page : Int} {k : Nat} (h1 : 0 ≤ key ∧ key ≤ 1000000000) (h2 : 0 ≤ page ∧ page ≤ 59) (h3 : k < 20) : allB [key, page, (k : Int)] 0 1000000000 = true := by
  simp [allB]; omega


set_option maxHeartbeats 400000 in
theorem isPage_any (k1 p1 : Int) (z1 : List Int) (A1 : Option Addr) (c1 : Nat) (page : Int) {l h : Nat} (w : World) (hr : Rd w l h A1 z1) (hl : z1.length ≤ 1048576) :
    Calls Try.prog 119 #[.agg #[.int .i64 k1, .int .i64 p1, .slice A1 z1.length c1], .int .i64 page] w fun e w' => e = .returned (.bool (pgB k1 p1 z1 page)) ∧ Below w.heap.size w w' := by
  cases q : kbB k1 p1 z1 with
  | false =>
    have hv := Lib.hid (show pgB k1 p1 z1 page = false by simp [pgB, q])
    go_enter Try.func119, Try.ntmps119
    go_wp2_with fail
    refine (iIsKeyBook_any k1 p1 z1 A1 c1 _ (hr.alloc _) (by omega)).mono ?_
    rintro e w1 ⟨rfl, hb1⟩
    have hb := ((Below.refl w.heap.size w).alloc (Nat.le_refl _) _).trans (hb1.mono (by simp))
    clear hb1
    go_wp2
    go_ret
    exact ⟨by rw [hv.out]; rfl, hb⟩
  | true =>
    have hv := Lib.hid (show pgB k1 p1 z1 page = inB page 0 (p1 - 1) by simp [pgB, q])
    have hp : 1 ≤ p1 ∧ p1 ≤ 60 := by simp only [kbB, Bool.and_eq_true] at q; exact inB_iff.1 q.2.1
    go_enter Try.func119, Try.ntmps119
    go_wp2_with fail
    refine (iIsKeyBook_any k1 p1 z1 A1 c1 _ (hr.alloc _) (by omega)).mono ?_
    rintro e w1 ⟨rfl, hb1⟩
    have hb := ((Below.refl w.heap.size w).alloc (Nat.le_refl _) _).trans (hb1.mono (by simp))
    have b1 := (Bk.new w _ _).st hb1
    have a1 := b1.cell 1
    simp at a1
    clear hb1 b1
    go_wp2_with (go_at_call 86; refine (within_any _ _ _ _).mono ?_; rintro e w' ⟨rfl, rfl⟩)
    go_ret
    exact ⟨by rw [hv.out]; rfl, hb⟩

set_option maxHeartbeats 1000000 in
theorem pageOf_any (k1 p1 : Int) (z1 : List Int) (A1 : Option Addr) (c1 : Nat) (page : Int) (w : World) (h1 : 0 ≤ k1 ∧ k1 ≤ 1000000000) (h2 : 0 ≤ page ∧ page ≤ 59) :
    Calls Try.prog 110 #[.agg #[.int .i64 k1, .int .i64 p1, .slice A1 z1.length c1], .int .i64 page] w fun e w' => ∃ A c, e = .returned (.slice A (pageL k1 page).length c) ∧ Own w' w.heap.size w'.heap.size (.slice A (pageL k1 page).length c) (pageL k1 page) ∧ Below w.heap.size w w' := by
  go_enter Try.func110, Try.ntmps110
  go_wp2_with (at_make; refine wp_make_ints rfl _ _ rfl 20 rfl rfl (by omega) ?_; intro w1 hown1 hb1 hs1)
  have b1 : Bk w1 w.heap.size 52 _ := (Bk.new w _ _).st hb1
  have hb := ((Below.refl w.heap.size w).alloc (Nat.le_refl _) (.cells #[.int .i64 k1, .int .i64 p1, .slice A1 z1.length c1] 52)).trans (hb1.mono (by simp))
  have es : Hid ((w.alloc (.cells #[.int .i64 k1, .int .i64 p1, .slice A1 z1.length c1] 52)).heap.size = w.heap.size + 1) := by show _ = _; simp
  have hz : Hid (List.replicate 20 (0 : Int) = tk (pageL k1 page) 0) := by show _ = _; rw [tk_zero, pageL_len]
  have ho1 : Hid (Own w1 (w.heap.size + 1) (w.heap.size + 2) (.slice (some ⟨w.heap.size + 1, 0, none⟩) 20 20) (tk (pageL k1 page) 0)) := by
    show Own _ _ _ _ _
    rw [es.out] at hown1
    rw [← hz.out]
    exact hown1.mono (Nat.le_refl _) (by rw [hs1, es.out]; omega)
  have hs2 : w.heap.size + 2 ≤ w1.heap.size := by rw [hs1, es.out]; omega
  clear hown1 hs1 hb1
  go_loopw [6, 10] (fun _ i wr => ∃ k : Nat, k ≤ 20 ∧ i = .int .i64 k ∧ Own wr (w.heap.size + 1) (w.heap.size + 2) (.slice (some ⟨w.heap.size + 1, 0, none⟩) 20 20) (tk (pageL k1 page) k) ∧
      Bk wr w.heap.size 52 #[.int .i64 k1, .int .i64 p1, .slice A1 z1.length c1] ∧ Below w.heap.size w wr ∧ w.heap.size + 2 ≤ wr.heap.size) (fun _ i _ => 20 - (intOf i).toNat)
  case atStart => exact ⟨0, by omega, rfl, ho1.out, b1, hb, hs2⟩
  case round =>
    clear ho1 b1 hb hs2 hz es
    obtain ⟨k, hk, rfl, hown, hbk, hbr, hsr⟩ := hrel
    by_cases hlt : k < 20
    · have a0 := hbk.cell 0
      simp at a0
      have hm := mixL_bd [k1, page, (k : Int)]
      have hst0 := tk_succ (pageL k1 page) k (by rw [pageL_len]; exact hlt)
      rw [pageL_at] at hst0
      have hst := Lib.hid hst0
      clear hst0
      go_wp2_with fail
      refine (mixOf_any [k1, page, (k : Int)] (some ⟨wr.heap.size, 0, none⟩) 3 _ (Rd.one wr _ _ [k1, page, (k : Int)] rfl) (by simp) (pageKeys h1 h2 hlt)).mono ?_
      rintro e w2 ⟨rfl, hb2⟩
      have s2 : wr.heap.size + 1 ≤ w2.heap.size := by have := hb2.size; simpa using this
      have ho2 := (hown.alloc _).st hb2
      have hk2 := Lib.hid ((hbk.alloc _).st hb2)
      have hB2 := (hbr.alloc (by omega) _).trans (hb2.mono (by simp; omega))
      obtain ⟨g, c', he, _, _, _, hcell, hfr⟩ := ho2.at_ (by rw [tk_length _ _ (by rw [pageL_len]; exact hk), pageL_len]; omega)
      injection he with e1 e2 e3
      injection e1 with e1
      injection e1 with e1 e4
      subst e1
      have hf := hfr k
      obtain ⟨x, hcd⟩ : ∃ x, w2.cell? ⟨w.heap.size + 1, k, none⟩ = some (.int .i64 x) := ⟨_, hcell k (by rw [tk_length _ _ (by rw [pageL_len]; exact hk), pageL_len]; omega)⟩
      have hst2 := Lib.hid (ho2.stored (j := k) (mixL [k1, page, (k : Int)] % 60))
      have hB3 := Lib.hid (hB2.setCell (p := ⟨w.heap.size + 1, k, none⟩) (by dsimp only; omega) (.int .i64 (mixL [k1, page, (k : Int)] % 60)))
      have hk3 : Hid (Bk (w2.setCell ⟨w.heap.size + 1, k, none⟩ (.int .i64 (mixL [k1, page, (k : Int)] % 60))) w.heap.size 52 _) := hk2.out.far (by dsimp only; omega) _
      clear hcell hfr e2 e3 e4 ho2 hk2 hB2 hb2 hown hbk hbr a0
      go_wp2
      go_roundw
      case rel => exact ⟨k + 1, by omega, by go_num, by rw [← hst.out]; exact hst2.out, hk3.out, hB3.out, by rw [size_setCell]; omega⟩
      case measure => simp [intOf]; omega
    · obtain rfl : k = 20 := by omega
      have hl20 : (pageL k1 page).length = 20 := pageL_len k1 page
      have hfin : Hid (tk (pageL k1 page) 20 = pageL k1 page) := by show _ = _; rw [← hl20]; exact tk_all _
      rw [hfin.out] at hown
      have ho : Hid (Own wr w.heap.size wr.heap.size (.slice (some ⟨w.heap.size + 1, 0, none⟩) (pageL k1 page).length 20) (pageL k1 page)) := by rw [hl20]; exact hown.mono (by omega) hsr
      have hll := Lib.hid hl20
      clear hl20 hown
      go_wp2
      go_ret
      exact ⟨_, _, by rw [hll.out]; rfl, ho.out, hbr⟩
set_option maxHeartbeats 1000000 in
theorem kyPage_any (k1 p1 : Int) (z1 : List Int) (A1 : Option Addr) (c1 : Nat) (page : Int) (w : World) (h1 : 0 ≤ k1 ∧ k1 ≤ 1000000000) (h2 : 0 ≤ page ∧ page ≤ 59) :
    Calls Try.prog 117 #[.agg #[.int .i64 k1, .int .i64 p1, .slice A1 z1.length c1], .int .i64 page] w fun e w' => ∃ A c, e = .returned (.slice A (pageL k1 page).length c) ∧ Own w' w.heap.size w'.heap.size (.slice A (pageL k1 page).length c) (pageL k1 page) ∧ Below w.heap.size w w' := by
  go_enter Try.func117, Try.ntmps117
  go_wp2
  go_loopw [5, 6] (fun v i wr => ∃ k : Nat, k ≤ 20 ∧ i = .int .i64 k ∧ Own wr (w.heap.size + 1) wr.heap.size v (pageTo k1 page k) ∧
      Bk wr w.heap.size 52 #[.int .i64 k1, .int .i64 p1, .slice A1 z1.length c1] ∧ Below w.heap.size w wr ∧ w.heap.size + 1 ≤ wr.heap.size) (fun _ i _ => 20 - (intOf i).toNat)
  case atStart => exact ⟨0, by omega, rfl, Own.nil, Bk.new w _ _, (Below.refl _ _).alloc (Nat.le_refl _) _, by simp⟩
  case round =>
    obtain ⟨k, hk, rfl, hown, hbk, hbr, hsr⟩ := hrel
    by_cases hlt : k < 20
    · have a0 := hbk.cell 0
      simp at a0
      have hm := mixL_bd [k1, page, (k : Int)]
      have hpl : Hid ((pageTo k1 page k).length = k) := by show _ = _; rw [pageTo, List.length_take, pageL_len]; omega
      have hst := Lib.hid (pageTo_succ k1 page k hlt)
      go_wp2_with fail
      refine (kyMix_any [k1, page, (k : Int)] (some ⟨wr.heap.size, 0, none⟩) 3 _ (Rd.one wr _ _ [k1, page, (k : Int)] rfl) (by simp) (pageKeys h1 h2 hlt)).mono ?_
      rintro e w2 ⟨rfl, hb2⟩
      have s2 : wr.heap.size + 1 ≤ w2.heap.size := by have := hb2.size; simpa using this
      have ho2 := (hown.alloc _).st hb2
      have hk2 := (hbk.alloc _).st hb2
      have hB2 := (hbr.alloc (by omega) _).trans (hb2.mono (by simp; omega))
      clear hown hbk hbr a0 hb2
      go_wp2_with (at_builtin; refine wp_append_ints rfl (.tmp 11) (.tmp 19) rfl rfl (ho2.alloc _) (ys := [mixL [k1, page, (k : Int)] % 60]) rfl ((Rd.one w2 _ _ _ rfl).mono (Nat.zero_le _) (by simp)) (by rw [hpl.out]; simp; omega) (by simp; omega) ?_; intro v3 w3 hown3 hg3 hb3 hat3)
      have hB3 : Hid (Below w.heap.size w w3) := (hB2.alloc (by omega) _).trans (hb3.mono (by omega))
      have hk3 : Hid (Bk w3 w.heap.size 52 _) := (hk2.alloc _).below hb3 (by omega)
      have s3 : w2.heap.size + 1 ≤ w3.heap.size := by have := hb3.size; simpa using this
      have ho3 := Lib.hid hown3
      clear hown3 hg3 hb3 hat3 ho2 hk2 hB2
      go_roundw
      case rel => exact ⟨k + 1, by omega, by go_num, by rw [hst.out]; exact ho3.out, hk3.out, hB3.out, by omega⟩
      case measure => simp [intOf]; omega
    · obtain rfl : k = 20 := by omega
      have hl20 : (pageL k1 page).length = 20 := pageL_len k1 page
      have hfin : Hid (pageTo k1 page 20 = pageL k1 page) := by show _ = _; rw [pageTo, List.take_of_length_le (by omega)]
      rw [hfin.out] at hown
      obtain ⟨A, c, rfl, -, -⟩ := hown.rd
      have ho : Hid (Own wr w.heap.size wr.heap.size (.slice A (pageL k1 page).length c) (pageL k1 page)) := hown.mono (by omega) (Nat.le_refl _)
      clear hl20 hown
      go_wp2
      go_ret
      exact ⟨_, _, rfl, ho.out, hbr⟩



end Go.Proofs.Yteajjbfecpffeaa
