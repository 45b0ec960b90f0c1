/-
  Contracts and plain laws that the walk uses, several texts in one. The conditions are named ahead of each.
-/
import Derived.Test.YtjhbffndiaggmaaGreatDoorZSSMemI
import Derived.Test.YtjhbffndiaggmaaGreatDoorBSS6
import Derived.Test.YtjhbffndiaggmaaGreatDoorZSSLawKit
import Derived.Deep.RegionHeld3

/-
  Contracts of the statements' own helpers on slices of slices of integers: equality and marks. The conditions are bounds on lengths.
-/
namespace Go.Proofs.YtjhbffndiaggmaaGreatDoor
open Go.RowKit Go.ChangeShapes Go.WideShapes
set_option linter.unusedVariables false
set_option linter.unusedSimpArgs false

def isum (es : List (List Int)) (j : Nat) : Nat := ((es.take j).map List.length).sum
theorem isum_zero (es : List (List Int)) : isum es 0 = 0 := by simp [isum]
theorem isum_succ (es : List (List Int)) (k : Nat) (h : k < es.length) : isum es (k + 1) = isum es k + es[k].length := by
  unfold isum; rw [List.take_succ_eq_append_getElem h, List.map_append, List.sum_append]; simp
theorem isum_le (es : List (List Int)) (k : Nat) : isum es k ≤ isum es es.length := by
  unfold isum
  rw [List.take_length]
  conv => rhs; rw [← List.take_append_drop k es]
  rw [List.map_append, List.sum_append]
  omega
def iszL (es : List (List Int)) : Nat := es.length + isum es es.length
theorem isz_len (es : List (List Int)) : es.length ≤ iszL es := by unfold iszL; omega
theorem isz_at (es : List (List Int)) (k : Nat) (h : k < es.length) : es[k].length ≤ iszL es := by
  have := isum_succ es k h; have := isum_le es (k + 1); unfold iszL; omega
theorem isz_nil : iszL [] = 0 := by simp [iszL, isum]
theorem isz_all {es : List (List Int)} {n m : Nat} (h : es.length ≤ n) (h2 : ∀ x ∈ es, x.length ≤ m) : iszL es ≤ n * (m + 1) := by
  have : isum es es.length ≤ es.length * m := by
    unfold isum
    rw [List.take_length]
    clear h
    induction es with
    | nil => simp
    | cons a es ih =>
      have h1 := h2 a (by simp)
      have h3 := ih fun x hx => h2 x (by simp [hx])
      simp only [List.map_cons, List.sum_cons, List.length_cons, Nat.add_mul, Nat.one_mul]
      omega
  have h4 : es.length * m ≤ n * m := Nat.mul_le_mul_right _ h
  unfold iszL
  rw [Nat.mul_add, Nat.mul_one]
  omega
/-- the marks -/
def mkITo (es : List (List Int)) (k0 : Int) (j : Nat) : List (List Int) := es.mapIdx fun i z => if i < j then fill (k0 + isum es i) z.length else z
theorem mkITo_len (es : List (List Int)) (k0 : Int) (j : Nat) : (mkITo es k0 j).length = es.length := by simp [mkITo]
theorem mkITo_zero (es : List (List Int)) (k0 : Int) : mkITo es k0 0 = es := by
  apply List.ext_getElem (by simp [mkITo])
  intro i h1 h2
  simp [mkITo]
theorem mkITo_get (es : List (List Int)) (k0 : Int) (k : Nat) (h : k < es.length) (h' : k < (mkITo es k0 k).length) : (mkITo es k0 k)[k] = es[k] := by simp [mkITo]
theorem mkITo_succ (es : List (List Int)) (k0 : Int) (k : Nat) (h : k < es.length) : (mkITo es k0 k).set k (fill (k0 + isum es k) es[k].length) = mkITo es k0 (k + 1) := by
  apply List.ext_getElem (by simp [mkITo])
  intro i h1 h2
  rw [List.getElem_set]
  by_cases e : k = i
  · subst e
    simp [mkITo]
  · rw [if_neg e]
    simp only [mkITo, List.getElem_mapIdx]
    by_cases e2 : i < k
    · rw [if_pos e2, if_pos (by omega)]
    · rw [if_neg e2, if_neg (by omega)]
def mkI (es : List (List Int)) (k0 : Int) : List (List Int) := mkITo es k0 es.length
theorem mkI_len (es : List (List Int)) (k0 : Int) : (mkI es k0).length = es.length := mkITo_len _ _ _
theorem mkI_at (es : List (List Int)) (k0 : Int) (k : Nat) (h : k < es.length) (h' : k < (mkI es k0).length) : (mkI es k0)[k] = fill (k0 + isum es k) es[k].length := by simp [mkI, mkITo, h]

/-- the k-th of the slices, opened for marks -/
theorem OwnI.open_ {w : World} {lo hi n c k : Nat} {A : Option Addr} {es : List (List Int)} (h : OwnI w lo hi (.slice A n c) es) (hk : k < es.length) :
    ∃ g A1 c1 l r, A = some ⟨g, 0, none⟩ ∧ lo ≤ g ∧ g < hi ∧ w.cell? ⟨g, k, none⟩ = some (.slice A1 es[k].length c1) ∧ Own w l r (.slice A1 es[k].length c1) es[k] ∧ (∀ b, l ≤ b → b < r → b ≠ g ∧ lo ≤ b ∧ b < hi) ∧
      ∀ (w' : World) (s' : List Int), s'.length = es[k].length → Fr l r w w' → Own w' l r (.slice A1 es[k].length c1) s' → OwnI w' lo hi (.slice A n c) (es.set k s') := by
  rcases h with ⟨_, rfl⟩ | ⟨g, cap, cur, U, e0, a1, a2, hg, c1, c2, c3, hj, hd⟩
  · exact absurd hk (by simp)
  · injection e0 with e1 e2 e3
    subst e1 e2 e3
    obtain ⟨x0, hu⟩ := hj k hk
    obtain ⟨A1, d1, eu, _, _⟩ := hu.rd
    have nu := hu.ne_sl hg
    obtain ⟨l, r, hu1, tu⟩ := hu.tight
    have hfr : ∀ b, l ≤ b → b < r → b ≠ g ∧ lo ≤ b ∧ b < hi := fun b h1 h2 => by
      obtain ⟨o1, o2, o3⟩ := tu b h1 h2
      exact ⟨fun e => nu (by rw [o1, e]), o2, o3⟩
    refine ⟨g, A1, d1, l, r, rfl, a1, a2, (cell_of_row w g k cur _ _ hg).trans (x0.trans (by rw [eu])), eu ▸ hu1, hfr, ?_⟩
    intro w' s' hl hf hs'
    rw [← eu] at hs'
    have hgw : w'.heap[g]? = w.heap[g]? := hf.block g (Array.getElem?_eq_some_iff.1 hg).1 (by
      by_cases hb : l ≤ g ∧ g < r
      · exact absurd rfl (hfr g hb.1 hb.2).1
      · omega)
    refine .inr ⟨g, c, cur, U, by rw [List.length_set], a1, a2, hgw.trans hg, by rw [List.length_set]; exact c1, c2, c3, ?_, by rw [List.length_set]; exact hd⟩
    intro j hjl
    rw [List.length_set] at hjl
    by_cases hjk : j = k
    · subst hjk
      simp only [List.getElem_set_self]
      exact ⟨x0, hs'.wide fun b h1 h2 => (tu b h1 h2).2⟩
    · simp only [List.getElem_set_ne (Ne.symm hjk)]
      obtain ⟨y0, p⟩ := hj j hjl
      refine ⟨y0, p.keep fun b hb _ _ hlt => hf.block b hlt ?_⟩
      by_cases hb2 : l ≤ b ∧ b < r
      · obtain ⟨o1, _⟩ := tu b hb2.1 hb2.2
        rcases hd j k hjl hk hjk with d | d
        · rw [hb] at d; cases d
        · exact absurd (by rw [hb, o1]) d
      · omega



end Go.Proofs.YtjhbffndiaggmaaGreatDoor

/-
  Contracts of the laws' own helpers: qInts, qHas, qKeys, qLists, qSecret. The conditions are bounds on lengths.
-/
namespace Go.Proofs.YtjhbffndiaggmaaGreatDoor
open Go.RowKit Go.ChangeShapes Go.WideShapes
set_option linter.unusedVariables false
set_option linter.unusedSimpArgs false

set_option maxHeartbeats 2000000 in
theorem qInts_any (xs ys : List Int) (A A' : Option Addr) (c c' : Nat) {l h l' h' : Nat} (w : World) (hx : Rd w l h A xs) (hy : Rd w l' h' A' ys) (hl : xs.length ≤ 9223372036854775807) (hl' : ys.length ≤ 9223372036854775807) :
    Calls Tryz.prog 47 #[.slice A xs.length c, .slice A' ys.length c'] w fun e w' => e = .returned (.bool (eqL xs ys)) ∧ ∃ n, w.drewN n = w' := by
  by_cases hne : xs.length = ys.length
  · go_enter Tryz.func47, Tryz.ntmps47
    have hn : ((xs.length : Int) != (ys.length : Int)) = false := by simp [hne]
    have hneH := Lib.hid hne
    have hle : xs.length ≤ ys.length := by omega
    clear hne
    go_wp2
    go_loopw [5, 13] (fun _ i wr => ∃ k : Nat, k ≤ xs.length ∧ i = .int .i64 k ∧ (∀ j (h1 : j < xs.length) (h2 : j < ys.length), j < k → xs[j] = ys[j]) ∧ ∃ n, w.drewN n = wr) (fun _ i _ => xs.length - (intOf i).toNat)
    case atStart => exact ⟨0, Nat.zero_le _, rfl, fun j _ _ h => absurd h (by omega), 0, rfl⟩
    case round =>
      obtain ⟨k, hk, rfl, hall, n, rfl⟩ := hrel
      have hallH := Lib.hid hall
      clear hall
      by_cases hlt : k < xs.length
      · obtain ⟨b, off, rfl, _, _, hc⟩ := hx (by omega)
        obtain ⟨b', off', rfl, _, _, hc'⟩ := hy (by omega)
        have hlt' : k < ys.length := by omega
        have hck := hc k hlt
        have hck' := hc' k hlt'
        clear hc hc'
        by_cases heq : xs[k] = ys[k]
        · have ht : (xs[k] != ys[k]) = false := by simp [heq]
          have hq := Lib.hid heq
          clear heq
          go_wp2
          go_quiet (fail)
          go_wp2
          go_roundw
          case rel => exact ⟨k + 1, by omega, by go_num, fun j h1 h2 h3 => by
            by_cases hj : j = k
            · subst hj; exact hq.out
            · exact hallH.out j h1 h2 (by omega), _, by first | rfl | exact (World.drewN_drewN _ _ _).symm⟩
          case measure => simp [intOf]; omega
        · have ht : (xs[k] != ys[k]) = true := by simp [heq]
          have hq := Lib.hid (eqL_at hlt hlt' heq)
          clear heq
          go_wp2
          go_quiet (fail)
          go_wp2
          go_ret
          exact ⟨by rw [hq.out]; rfl, _, by first | rfl | exact (World.drewN_drewN _ _ _).symm⟩
      · have hq := Lib.hid (eqL_take hneH.out fun j h1 h2 => hallH.out j h1 h2 (by omega))
        go_wp2
        go_ret
        exact ⟨by rw [hq.out]; rfl, _, rfl⟩
  · have hq := Lib.hid (eqL_len hne)
    have hn : ((xs.length : Int) != (ys.length : Int)) = true := by simp; omega
    clear hne
    go_enter Tryz.func47, Tryz.ntmps47
    go_wp2
    go_ret
    exact ⟨by rw [hq.out]; rfl, 0, rfl⟩
theorem qInts_v (xs ys : List Int) (A A' : Option Addr) (c c' : Nat) {l h l' h' : Nat} (w : World) (hx : Rd w l h A xs) (hy : Rd w l' h' A' ys) (hl : xs.length ≤ 9223372036854775807) (hl' : ys.length ≤ 9223372036854775807) (v : Bool) (hv : eqL xs ys = v) :
    Calls Tryz.prog 47 #[.slice A xs.length c, .slice A' ys.length c'] w fun e w' => e = .returned (.bool v) ∧ Below w.heap.size w w' :=
  (qInts_any xs ys A A' c c' w hx hy hl hl').mono fun e w' ⟨he, n, hw⟩ => ⟨hv ▸ he, hw ▸ below_refl_drewN n⟩
theorem qInts_t (xs : List Int) (A A' : Option Addr) (k k' c c' : Nat) {l h l' h' : Nat} (w : World) (hk : k = xs.length) (hk' : k' = xs.length) (hx : Rd w l h A xs) (hy : Rd w l' h' A' xs) (hl : xs.length ≤ 1048576) :
    Calls Tryz.prog 47 #[.slice A k c, .slice A' k' c'] w fun e w' => e = .returned (.bool true) ∧ Below w.heap.size w w' := by
  subst hk hk'
  exact qInts_v xs xs A A' c c' w hx hy (by omega) (by omega) true (eqL_self xs)
set_option maxHeartbeats 2000000 in
theorem qHas_any (zs : List Int) (A : Option Addr) (c : Nat) {l h : Nat} (n : Int) (w : World) (hr : Rd w l h A zs) (hl : zs.length ≤ 9223372036854775807) :
    Calls Tryz.prog 50 #[.slice A zs.length c, .int .i64 n] w fun e w' => e = .returned (.bool (hasB zs n)) ∧ w = w' := by
  go_enter Tryz.func50, Tryz.ntmps50
  go_wp2
  go_loop [6, 9] (fun _ i => ∃ k : Nat, k ≤ zs.length ∧ i = .int .i64 k ∧ (∀ j (h : j < zs.length), j < k → zs[j] ≠ n)) (fun _ i => zs.length - (intOf i).toNat)
  case atStart => exact ⟨0, Nat.zero_le _, rfl, fun j _ h => absurd h (by omega)⟩
  case round =>
    obtain ⟨k, hk, rfl, hall⟩ := hrel
    have hallH := Lib.hid hall
    clear hall
    by_cases hlt : k < zs.length
    · obtain ⟨b, off, rfl, _, _, hc⟩ := hr (by omega)
      have hck := hc k hlt
      clear hc
      by_cases heq : zs[k] = n
      · have ht : (zs[k] == n) = true := by simp [heq]
        have hq := Lib.hid (hasB_at hlt heq)
        clear heq
        go_wp2
        go_ret
        exact ⟨by rw [hq.out]; rfl, rfl⟩
      · have ht : (zs[k] == n) = false := by simp [heq]
        have hq := Lib.hid heq
        clear heq
        go_wp2
        go_round
        case rel => exact ⟨k + 1, by omega, by go_num, fun j h1 h2 => by
          by_cases hj : j = k
          · subst hj; exact hq.out
          · exact hallH.out j h1 (by omega)⟩
        case measure => simp [intOf]; omega
    · have hq := Lib.hid (hasB_no (zs := zs) (n := n) fun j h1 => hallH.out j h1 (by omega))
      go_wp2
      go_ret
      exact ⟨by rw [hq.out]; rfl, rfl⟩
theorem qHas_v (zs : List Int) (A : Option Addr) (k c : Nat) {l h : Nat} (n : Int) (w : World) (hk : k = zs.length) (hr : Rd w l h A zs) (hl : zs.length ≤ 1048576) (v : Bool) (hv : hasB zs n = v) :
    Calls Tryz.prog 50 #[.slice A k c, .int .i64 n] w fun e w' => e = .returned (.bool v) ∧ w = w' := by
  subst hk hv
  exact qHas_any zs A c n w hr (by omega)
set_option maxHeartbeats 4000000 in
theorem qSecret_t (xs ys : List Int) (A A' B B' : Option Addr) (k k' n n' c c' d d' : Nat) {l h l' h' l2 h2 l3 h3 : Nat} (w : World) (hk : k = xs.length) (hk' : k' = xs.length) (hn : n = ys.length) (hn' : n' = ys.length) (hx : Rd w l h A xs) (hy : Rd w l' h' A' xs) (hx2 : Rd w l2 h2 B ys) (hy2 : Rd w l3 h3 B' ys) (hl : xs.length ≤ 1048576) (hl2 : ys.length ≤ 1048576) :
    Calls Tryz.prog 48 #[.agg #[.slice A k c, .slice B n d], .agg #[.slice A' k' c', .slice B' n' d']] w fun e w' => e = .returned (.bool true) ∧ Below w.heap.size w w' := by
  have hkH := Lib.hid hk
  have hkH' := Lib.hid hk'
  have hnH := Lib.hid hn
  have hnH' := Lib.hid hn'
  clear hk hk' hn hn'
  have hB0 := ((Below.refl w.heap.size w).alloc (Nat.le_refl _) (.cells #[.slice A k c, .slice B n d] 53)).alloc (by simp) (.cells #[.slice A' k' c', .slice B' n' d'] 53)
  have b1 := (Bk.new w 53 #[.slice A k c, .slice B n d]).alloc (.cells #[.slice A' k' c', .slice B' n' d'] 53)
  have b2 := Bk.new2 w (.cells #[.slice A k c, .slice B n d] 53) 53 #[.slice A' k' c', .slice B' n' d']
  replace hx := (hx.alloc (.cells #[.slice A k c, .slice B n d] 53)).alloc (.cells #[.slice A' k' c', .slice B' n' d'] 53)
  replace hy := (hy.alloc (.cells #[.slice A k c, .slice B n d] 53)).alloc (.cells #[.slice A' k' c', .slice B' n' d'] 53)
  replace hx2 := (hx2.alloc (.cells #[.slice A k c, .slice B n d] 53)).alloc (.cells #[.slice A' k' c', .slice B' n' d'] 53)
  replace hy2 := (hy2.alloc (.cells #[.slice A k c, .slice B n d] 53)).alloc (.cells #[.slice A' k' c', .slice B' n' d'] 53)
  have hB0H := Lib.hid hB0
  have hsz : w.heap.size ≤ ((w.alloc (.cells #[.slice A k c, .slice B n d] 53)).alloc (.cells #[.slice A' k' c', .slice B' n' d'] 53)).heap.size := hB0.size
  have hszH := Lib.hid hsz
  have b1H := Lib.hid b1
  have b2H := Lib.hid b2
  clear hB0 hsz b1 b2
  go_enter Tryz.func48, Tryz.ntmps48
  go_wp2_with fail
  (with_reducible refine (qInts_t xs A A' k k' c c' _ hkH.out hkH'.out hx hy hl).mono ?_)
  rintro e w1 ⟨rfl, hb⟩
  have y1 := (b1H.out.st hb).cell 1
  have y2 := (b2H.out.st hb).cell 1
  have yl1 := (b1H.out.st hb).lt
  have yl2 := (b2H.out.st hb).lt
  simp at y1 y2
  replace hx2 := hx2.st hb
  replace hy2 := hy2.st hb
  have hbH := Lib.hid (hB0H.out.trans (hb.mono hszH.out))
  have hs1H := Lib.hid (Nat.le_trans hszH.out hb.size)
  clear hb hB0H hszH b1H b2H hx hy
  go_wp2_with fail
  (with_reducible refine (qInts_t ys B B' n n' d d' _ hnH.out hnH'.out hx2 hy2 hl2).mono ?_)
  rintro e w2 ⟨rfl, hb⟩
  have hb2H := Lib.hid (hbH.out.trans (hb.mono hs1H.out))
  clear hb y1 y2 yl1 yl2 hx2 hy2
  go_wp2_with fail
  go_ret
  exact ⟨rfl, hb2H.out⟩
end Go.Proofs.YtjhbffndiaggmaaGreatDoor
