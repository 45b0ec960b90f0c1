/-
  Contracts of the statements' own helpers on slices of slices of integers: equality and marks. The conditions are bounds on lengths.
-/
import Derived.Test.YtgglofcjifmbjaaMemI
import Derived.Test.YtgglofcjifmbjaaMarkE
import Derived.Test.YtgglofcjifmbjaaLawKit
namespace Go.Proofs.Ytgglofcjifmbjaa
open Go.RowKit Go.ChangeShapes Go.WideShapes
set_option linter.unusedVariables false
set_option linter.unusedSimpArgs false

def isum (es : List (List Int)) (j : Nat) : Nat := ((es.take j).map List.length).sum
theorem isum_zero (es : List (List Int)) : isum es 0 = 0 := by simp [isum]
theorem isum_succ (es : List (List Int)) (k : Nat) (h : k < es.length) : isum es (k + 1) = isum es k + es[k].length := by
  unfold isum; rw [List.take_succ_eq_append_getElem h, List.map_append, List.sum_append]; simp
theorem isum_le (es : List (List Int)) (k : Nat) : isum es k ≤ isum es es.length := by
  unfold isum
  rw [List.take_length]
  conv => rhs; rw [← List.take_append_drop k es]
  rw [List.map_append, List.sum_append]
  omega
def iszL (es : List (List Int)) : Nat := es.length + isum es es.length
theorem isz_len (es : List (List Int)) : es.length ≤ iszL es := by unfold iszL; omega
theorem isz_at (es : List (List Int)) (k : Nat) (h : k < es.length) : es[k].length ≤ iszL es := by
  have := isum_succ es k h; have := isum_le es (k + 1); unfold iszL; omega
theorem isz_nil : iszL [] = 0 := by simp [iszL, isum]
theorem isz_all {es : List (List Int)} {n m : Nat} (h : es.length ≤ n) (h2 : ∀ x ∈ es, x.length ≤ m) : iszL es ≤ n * (m + 1) := by
  have : isum es es.length ≤ es.length * m := by
    unfold isum
    rw [List.take_length]
    clear h
    induction es with
    | nil => simp
    | cons a es ih =>
      have h1 := h2 a (by simp)
      have h3 := ih fun x hx => h2 x (by simp [hx])
      simp only [List.map_cons, List.sum_cons, List.length_cons, Nat.add_mul, Nat.one_mul]
      omega
  have h4 : es.length * m ≤ n * m := Nat.mul_le_mul_right _ h
  unfold iszL
  rw [Nat.mul_add, Nat.mul_one]
  omega
/-- the marks -/
def mkITo (es : List (List Int)) (k0 : Int) (j : Nat) : List (List Int) := es.mapIdx fun i z => if i < j then fill (k0 + isum es i) z.length else z
theorem mkITo_len (es : List (List Int)) (k0 : Int) (j : Nat) : (mkITo es k0 j).length = es.length := by simp [mkITo]
theorem mkITo_zero (es : List (List Int)) (k0 : Int) : mkITo es k0 0 = es := by
  apply List.ext_getElem (by simp [mkITo])
  intro i h1 h2
  simp [mkITo]
theorem mkITo_get (es : List (List Int)) (k0 : Int) (k : Nat) (h : k < es.length) (h' : k < (mkITo es k0 k).length) : (mkITo es k0 k)[k] = es[k] := by simp [mkITo]
theorem mkITo_succ (es : List (List Int)) (k0 : Int) (k : Nat) (h : k < es.length) : (mkITo es k0 k).set k (fill (k0 + isum es k) es[k].length) = mkITo es k0 (k + 1) := by
  apply List.ext_getElem (by simp [mkITo])
  intro i h1 h2
  rw [List.getElem_set]
  by_cases e : k = i
  · subst e
    simp [mkITo]
  · rw [if_neg e]
    simp only [mkITo, List.getElem_mapIdx]
    by_cases e2 : i < k
    · rw [if_pos e2, if_pos (by omega)]
    · rw [if_neg e2, if_neg (by omega)]
def mkI (es : List (List Int)) (k0 : Int) : List (List Int) := mkITo es k0 es.length
theorem mkI_len (es : List (List Int)) (k0 : Int) : (mkI es k0).length = es.length := mkITo_len _ _ _
theorem mkI_at (es : List (List Int)) (k0 : Int) (k : Nat) (h : k < es.length) (h' : k < (mkI es k0).length) : (mkI es k0)[k] = fill (k0 + isum es k) es[k].length := by simp [mkI, mkITo, h]

/-- the k-th of the slices, opened for marks -/
theorem OwnI.open_ {w : World} {lo hi n c k : Nat} {A : Option Addr} {es : List (List Int)} (h : OwnI w lo hi (.slice A n c) es) (hk : k < es.length) :
    ∃ g A1 c1 l r, A = some ⟨g, 0, none⟩ ∧ lo ≤ g ∧ g < hi ∧ w.cell? ⟨g, k, none⟩ = some (.slice A1 es[k].length c1) ∧ Own w l r (.slice A1 es[k].length c1) es[k] ∧ (∀ b, l ≤ b → b < r → b ≠ g ∧ lo ≤ b ∧ b < hi) ∧
      ∀ (w' : World) (s' : List Int), s'.length = es[k].length → Fr l r w w' → Own w' l r (.slice A1 es[k].length c1) s' → OwnI w' lo hi (.slice A n c) (es.set k s') := by
  rcases h with ⟨_, rfl⟩ | ⟨g, cap, cur, U, e0, a1, a2, hg, c1, c2, c3, hj, hd⟩
  · exact absurd hk (by simp)
  · injection e0 with e1 e2 e3
    subst e1 e2 e3
    obtain ⟨x0, hu⟩ := hj k hk
    obtain ⟨A1, d1, eu, _, _⟩ := hu.rd
    have nu := hu.ne_sl hg
    obtain ⟨l, r, hu1, tu⟩ := hu.tight
    have hfr : ∀ b, l ≤ b → b < r → b ≠ g ∧ lo ≤ b ∧ b < hi := fun b h1 h2 => by
      obtain ⟨o1, o2, o3⟩ := tu b h1 h2
      exact ⟨fun e => nu (by rw [o1, e]), o2, o3⟩
    refine ⟨g, A1, d1, l, r, rfl, a1, a2, (cell_of_row w g k cur _ _ hg).trans (x0.trans (by rw [eu])), eu ▸ hu1, hfr, ?_⟩
    intro w' s' hl hf hs'
    rw [← eu] at hs'
    have hgw : w'.heap[g]? = w.heap[g]? := hf.block g (Array.getElem?_eq_some_iff.1 hg).1 (by
      by_cases hb : l ≤ g ∧ g < r
      · exact absurd rfl (hfr g hb.1 hb.2).1
      · omega)
    refine .inr ⟨g, c, cur, U, by rw [List.length_set], a1, a2, hgw.trans hg, by rw [List.length_set]; exact c1, c2, c3, ?_, by rw [List.length_set]; exact hd⟩
    intro j hjl
    rw [List.length_set] at hjl
    by_cases hjk : j = k
    · subst hjk
      simp only [List.getElem_set_self]
      exact ⟨x0, hs'.wide fun b h1 h2 => (tu b h1 h2).2⟩
    · simp only [List.getElem_set_ne (Ne.symm hjk)]
      obtain ⟨y0, p⟩ := hj j hjl
      refine ⟨y0, p.keep fun b hb _ _ hlt => hf.block b hlt ?_⟩
      by_cases hb2 : l ≤ b ∧ b < r
      · obtain ⟨o1, _⟩ := tu b hb2.1 hb2.2
        rcases hd j k hjl hk hjk with d | d
        · rw [hb] at d; cases d
        · exact absurd (by rw [hb, o1]) d
      · omega

theorem eqIntS_t (xs : List Int) (A : Option Addr) (c : Nat) (A' : Option Addr) (c' : Nat) {l h l' h' : Nat} (w : World) (hx : Rd w l h A xs) (hy : Rd w l' h' A' xs) (hl : xs.length ≤ 9223372036854775806) :
    Calls Try.prog 25 #[.slice A xs.length c, .slice A' xs.length c'] w fun e w' => e = .returned (.bool true) ∧ Below w.heap.size w w' :=
  (eqIntS_b xs A c xs A' c' w hx hy hl hl).mono fun e w' ⟨he, hb⟩ => ⟨by rw [he, eqL_self], hb⟩
set_option maxHeartbeats 4000000 in
theorem eqIntSS_b (es : List (List Int)) (A : Option Addr) (c : Nat) (es2 : List (List Int)) (A' : Option Addr) (c' : Nat) {l h l' h' : Nat} (w : World) (hx0 : RdI w l h A es) (hy0 : RdI w l' h' A' es2) (hl : iszL es ≤ 1048576) (hl2 : iszL es2 ≤ 1048576) (he : es = es2 := by rfl) :
    Calls Try.prog 16 #[.slice A es.length c, .slice A' es2.length c'] w fun e w' => e = .returned (.bool true) ∧ Below w.heap.size w w' := by
  subst he
  have hx := hx0.std
  have hy := hy0.std
  clear hx0 hy0
  have hel := isz_len es
  go_enter Try.func16, Try.ntmps16
  go_wp2
  go_loopw [5] (fun i wr => ∃ k : Nat, k ≤ es.length ∧ i = .int .i64 k ∧ Below w.heap.size w wr) (fun i _ => es.length - (intOf i).toNat)
  case atStart => exact ⟨0, Nat.zero_le _, rfl, Below.refl _ _⟩
  case round =>
    obtain ⟨k, hk, rfl, hbr⟩ := hrel
    by_cases hlt : k < es.length
    · obtain ⟨b, off, rfl, _, _, hc⟩ := (hx.below hbr (Nat.le_refl _)) (by omega)
      obtain ⟨A1, c1, x0, r1⟩ := hc k hlt
      obtain ⟨b', off', rfl, _, _, hc'⟩ := (hy.below hbr (Nat.le_refl _)) (by omega)
      obtain ⟨A3, c3, y0, r3⟩ := hc' k hlt
      have hat := isz_at es k hlt
      have hszr := hbr.size
      have i0 : (0 : Int) ≤ (k : Int) := by omega
      have i1 : (k : Int) < (es.length : Int) := by omega
      have s1 : es[k].length ≤ 9223372036854775806 := by omega
      clear hc hc'
      generalize es[k] = ek at *
      have bb1 : b < wr.heap.size := by omega
      have bb2 : b' < wr.heap.size := by omega
      have hself := Lib.hid (eqL_self ek)
      go_wp2_with fail
      go_region_held3 (fun w' => w'.cell? ⟨b, off + k, none⟩ = some (.slice A1 ek.length c1) ∧ w'.cell? ⟨b', off' + k, none⟩ = some (.slice A3 ek.length c3))
        (first | go_keep | ((try go_split_ands); (try dsimp only); (repeat' apply And.intro) <;> (first | go_keep | ((refine (hc7 _ _ ?_).trans ?_) <;> first | assumption | omega | (simp <;> omega)))))
        (first
          | (go_at_call 25; ((with_reducible refine (eqIntS_t ek A1 c1 A3 c3 _ r1.drew r3.drew s1).mono ?_); rintro e w7 ⟨rfl, hb7⟩; (have hc7 := (bcell hb7).1))))
      have hb8 := Lib.hid (hbr.drew.trans (hb7.mono hbr.size))
      clear x0 y0 r1 r3 hb7 hc7
      go_wp2
      go_roundw
      case rel => exact ⟨k + 1, by omega, by go_num, hb8.out⟩
      case measure => simp [intOf]; omega
    · go_wp2
      go_ret
      exact ⟨rfl, hbr⟩

set_option maxHeartbeats 2000000 in
theorem markIntSS_b (es : List (List Int)) (A : Option Addr) (c : Nat) (k0 : Int) {lo hi : Nat} (w : World) (hown : OwnI w lo hi (.slice A es.length c) es) (h0 : 0 ≤ k0) (h1 : k0 + (iszL es : Int) ≤ 1000000000000) :
    Calls Try.prog 19 #[.slice A es.length c, .int .i64 k0] w fun e w' => e = .returned (.int .i64 (k0 + (isum es es.length : Int))) ∧ OwnI w' lo hi (.slice A es.length c) (mkI es k0) ∧ Fr lo hi w w' := by
  have hel := isz_len es
  have hiz : iszL es = es.length + isum es es.length := rfl
  go_enter Try.func19, Try.ntmps19
  go_wp2
  go_loopw [1, 5] (fun q i wr => ∃ k : Nat, k ≤ es.length ∧ i = .int .i64 k ∧ q = .int .i64 (k0 + (isum es k : Int)) ∧ OwnI wr lo hi (.slice A es.length c) (mkITo es k0 k) ∧ Fr lo hi w wr) (fun _ i _ => es.length - (intOf i).toNat)
  case atStart => exact ⟨0, Nat.zero_le _, rfl, by rw [isum_zero]; simp, by rw [mkITo_zero]; exact hown, Fr.refl _ _ _⟩
  case round =>
    obtain ⟨k, hk, rfl, rfl, how, hf⟩ := hrel
    by_cases hlt : k < es.length
    · have hop := how.open_ (k := k) (by rw [mkITo_len]; exact hlt)
      have hg0 : Hid ((mkITo es k0 k)[k]'(by rw [mkITo_len]; exact hlt) = es[k]) := Lib.hid (mkITo_get es k0 k hlt _)
      rw [hg0.out] at hop
      obtain ⟨g, A1, c1, l1, r1, rfl, g1, g2, y0, o1, s1, hclose⟩ := hop
      have hsum := isum_le es (k + 1)
      have hsum2 := isum_le es k
      have hsum3 := isum_succ es k hlt
      have hmk := Lib.hid (mkITo_succ es k0 k hlt)
      have hH := Lib.hid hclose
      have hH1 := Lib.hid s1
      have hfH := Lib.hid hf
      clear hown how hclose s1 hf
      go_wp2_with fail
      (with_reducible refine (markIntS_b es[k] A1 c1 _ _ o1 (by omega) (by omega)).mono ?_)
      rintro e w2 ⟨rfl, q1, fr1⟩
      have hO := hH.out w2 _ (fill_length _ _) fr1 q1
      have hk1 : Hid (k0 + ((isum es (k + 1) : Nat) : Int) = k0 + ((isum es k : Nat) : Int) + (es[k].length : Int)) := Lib.hid (by rw [hsum3]; omega)
      have hOH := Lib.hid hO
      have hFH := Lib.hid (hfH.out.trans (fr1.widen fun b h1 h2 => ⟨(hH1.out b h1 h2).2.1, (hH1.out b h1 h2).2.2⟩))
      clear hO q1 fr1
      go_wp2
      go_roundw
      case rel => exact ⟨k + 1, by omega, by go_num, by rw [hk1.out], by rw [← hmk.out]; exact hOH.out, hFH.out⟩
      case measure => simp [intOf]; omega
    · obtain rfl : k = es.length := by omega
      have howH : Hid (OwnI wr lo hi (.slice A es.length c) (mkI es k0)) := Lib.hid how
      clear how hown
      go_wp2
      go_ret
      exact ⟨rfl, howH.out, hf⟩

set_option maxHeartbeats 2000000 in
theorem heldIntSS_b (es : List (List Int)) (A : Option Addr) (c : Nat) (k0 : Int) {lo hi : Nat} (w : World) (hr0 : RdI w lo hi A (mkI es k0)) (h0 : 0 ≤ k0) (h1 : k0 + (iszL es : Int) ≤ 1000000000000) :
    Calls Try.prog 20 #[.slice A es.length c, .int .i64 k0] w fun e w' => e = .returned (.int .i64 (k0 + (isum es es.length : Int))) ∧ Below w.heap.size w w' := by
  have hr := hr0.std
  clear hr0
  have hel := isz_len es
  have hiz : iszL es = es.length + isum es es.length := rfl
  go_enter Try.func20, Try.ntmps20
  go_wp2
  go_loopw [1, 5] (fun q i wr => ∃ k : Nat, k ≤ es.length ∧ i = .int .i64 k ∧ q = .int .i64 (k0 + (isum es k : Int)) ∧ Below w.heap.size w wr) (fun _ i _ => es.length - (intOf i).toNat)
  case atStart => exact ⟨0, Nat.zero_le _, rfl, by rw [isum_zero]; simp, Below.refl _ _⟩
  case round =>
    obtain ⟨k, hk, rfl, rfl, hbr⟩ := hrel
    by_cases hlt : k < es.length
    · obtain ⟨b, off, rfl, _, _, hc⟩ := (hr.below hbr (Nat.le_refl _)) (by rw [mkI_len]; omega)
      obtain ⟨A1, c1, x0, r1⟩ := hc k (by rw [mkI_len]; exact hlt)
      rw [mkI_at es k0 k hlt] at r1 x0
      rw [fill_length] at x0
      have hsum := isum_le es (k + 1)
      have hsum2 := isum_le es k
      have hsum3 := isum_succ es k hlt
      have hszr := hbr.size
      have hk1 : Hid (k0 + ((isum es (k + 1) : Nat) : Int) = k0 + ((isum es k : Nat) : Int) + (es[k].length : Int)) := Lib.hid (by rw [hsum3]; omega)
      clear hc
      go_wp2_with fail
      (with_reducible refine (heldIntS_b es[k] A1 c1 _ _ r1 (by omega) (by omega)).mono ?_)
      rintro e w2 ⟨rfl, hb2⟩
      have hB := hbr.trans (hb2.mono hszr)
      clear hb2 r1 x0
      go_wp2
      go_roundw
      case rel => exact ⟨k + 1, by omega, by go_num, by rw [hk1.out], hB⟩
      case measure => simp [intOf]; omega
    · obtain rfl : k = es.length := by omega
      go_wp2
      go_ret
      exact ⟨rfl, hbr⟩
end Go.Proofs.Ytgglofcjifmbjaa
