/-
  Contracts of the laws' own helpers: qInts, qHas, qKeys, qLists, qSecret. The conditions are bounds on lengths.
-/
import Derived.Test.YteajjbfecpffeaaMemI
import Derived.Test.YteajjbfecpffeaaIntSS
import Derived.Deep.RegionHeld3
namespace Go.Proofs.Yteajjbfecpffeaa
open Go.RowKit Go.ChangeShapes Go.WideShapes
set_option linter.unusedVariables false
set_option linter.unusedSimpArgs false

set_option maxHeartbeats 2000000 in
theorem qInts_any (xs ys : List Int) (A A' : Option Addr) (c c' : Nat) {l h l' h' : Nat} (w : World) (hx : Rd w l h A xs) (hy : Rd w l' h' A' ys) (hl : xs.length ≤ 9223372036854775807) (hl' : ys.length ≤ 9223372036854775807) :
    Calls Try.prog 23 #[.slice A xs.length c, .slice A' ys.length c'] w fun e w' => e = .returned (.bool (eqL xs ys)) ∧ ∃ n, w.drewN n = w' := by
  by_cases hne : xs.length = ys.length
  · go_enter Try.func23, Try.ntmps23
    have hn : ((xs.length : Int) != (ys.length : Int)) = false := by simp [hne]
    have hneH := Lib.hid hne
    have hle : xs.length ≤ ys.length := by omega
    clear hne
    go_wp2
    go_loopw [5, 13] (fun _ i wr => ∃ k : Nat, k ≤ xs.length ∧ i = .int .i64 k ∧ (∀ j (h1 : j < xs.length) (h2 : j < ys.length), j < k → xs[j] = ys[j]) ∧ ∃ n, w.drewN n = wr) (fun _ i _ => xs.length - (intOf i).toNat)
    case atStart => exact ⟨0, Nat.zero_le _, rfl, fun j _ _ h => absurd h (by omega), 0, rfl⟩
    case round =>
      obtain ⟨k, hk, rfl, hall, n, rfl⟩ := hrel
      have hallH := Lib.hid hall
      clear hall
      by_cases hlt : k < xs.length
      · obtain ⟨b, off, rfl, _, _, hc⟩ := hx (by omega)
        obtain ⟨b', off', rfl, _, _, hc'⟩ := hy (by omega)
        have hlt' : k < ys.length := by omega
        have hck := hc k hlt
        have hck' := hc' k hlt'
        clear hc hc'
        by_cases heq : xs[k] = ys[k]
        · have ht : (xs[k] != ys[k]) = false := by simp [heq]
          have hq := Lib.hid heq
          clear heq
          go_wp2
          go_quiet (fail)
          go_wp2
          go_roundw
          case rel => exact ⟨k + 1, by omega, by go_num, fun j h1 h2 h3 => by
            by_cases hj : j = k
            · subst hj; exact hq.out
            · exact hallH.out j h1 h2 (by omega), _, by first | rfl | exact (World.drewN_drewN _ _ _).symm⟩
          case measure => simp [intOf]; omega
        · have ht : (xs[k] != ys[k]) = true := by simp [heq]
          have hq := Lib.hid (eqL_at hlt hlt' heq)
          clear heq
          go_wp2
          go_quiet (fail)
          go_wp2
          go_ret
          exact ⟨by rw [hq.out]; rfl, _, by first | rfl | exact (World.drewN_drewN _ _ _).symm⟩
      · have hq := Lib.hid (eqL_take hneH.out fun j h1 h2 => hallH.out j h1 h2 (by omega))
        go_wp2
        go_ret
        exact ⟨by rw [hq.out]; rfl, _, rfl⟩
  · have hq := Lib.hid (eqL_len hne)
    have hn : ((xs.length : Int) != (ys.length : Int)) = true := by simp; omega
    clear hne
    go_enter Try.func23, Try.ntmps23
    go_wp2
    go_ret
    exact ⟨by rw [hq.out]; rfl, 0, rfl⟩
theorem qInts_v (xs ys : List Int) (A A' : Option Addr) (c c' : Nat) {l h l' h' : Nat} (w : World) (hx : Rd w l h A xs) (hy : Rd w l' h' A' ys) (hl : xs.length ≤ 9223372036854775807) (hl' : ys.length ≤ 9223372036854775807) (v : Bool) (hv : eqL xs ys = v) :
    Calls Try.prog 23 #[.slice A xs.length c, .slice A' ys.length c'] w fun e w' => e = .returned (.bool v) ∧ Below w.heap.size w w' :=
  (qInts_any xs ys A A' c c' w hx hy hl hl').mono fun e w' ⟨he, n, hw⟩ => ⟨hv ▸ he, hw ▸ below_refl_drewN n⟩
theorem qInts_t (xs : List Int) (A A' : Option Addr) (k k' c c' : Nat) {l h l' h' : Nat} (w : World) (hk : k = xs.length) (hk' : k' = xs.length) (hx : Rd w l h A xs) (hy : Rd w l' h' A' xs) (hl : xs.length ≤ 1048576) :
    Calls Try.prog 23 #[.slice A k c, .slice A' k' c'] w fun e w' => e = .returned (.bool true) ∧ Below w.heap.size w w' := by
  subst hk hk'
  exact qInts_v xs xs A A' c c' w hx hy (by omega) (by omega) true (eqL_self xs)
set_option maxHeartbeats 2000000 in
theorem qHas_any (zs : List Int) (A : Option Addr) (c : Nat) {l h : Nat} (n : Int) (w : World) (hr : Rd w l h A zs) (hl : zs.length ≤ 9223372036854775807) :
    Calls Try.prog 41 #[.slice A zs.length c, .int .i64 n] w fun e w' => e = .returned (.bool (hasB zs n)) ∧ w = w' := by
  go_enter Try.func41, Try.ntmps41
  go_wp2
  go_loop [6, 9] (fun _ i => ∃ k : Nat, k ≤ zs.length ∧ i = .int .i64 k ∧ (∀ j (h : j < zs.length), j < k → zs[j] ≠ n)) (fun _ i => zs.length - (intOf i).toNat)
  case atStart => exact ⟨0, Nat.zero_le _, rfl, fun j _ h => absurd h (by omega)⟩
  case round =>
    obtain ⟨k, hk, rfl, hall⟩ := hrel
    have hallH := Lib.hid hall
    clear hall
    by_cases hlt : k < zs.length
    · obtain ⟨b, off, rfl, _, _, hc⟩ := hr (by omega)
      have hck := hc k hlt
      clear hc
      by_cases heq : zs[k] = n
      · have ht : (zs[k] == n) = true := by simp [heq]
        have hq := Lib.hid (hasB_at hlt heq)
        clear heq
        go_wp2
        go_ret
        exact ⟨by rw [hq.out]; rfl, rfl⟩
      · have ht : (zs[k] == n) = false := by simp [heq]
        have hq := Lib.hid heq
        clear heq
        go_wp2
        go_round
        case rel => exact ⟨k + 1, by omega, by go_num, fun j h1 h2 => by
          by_cases hj : j = k
          · subst hj; exact hq.out
          · exact hallH.out j h1 (by omega)⟩
        case measure => simp [intOf]; omega
    · have hq := Lib.hid (hasB_no (zs := zs) (n := n) fun j h1 => hallH.out j h1 (by omega))
      go_wp2
      go_ret
      exact ⟨by rw [hq.out]; rfl, rfl⟩
theorem qHas_v (zs : List Int) (A : Option Addr) (k c : Nat) {l h : Nat} (n : Int) (w : World) (hk : k = zs.length) (hr : Rd w l h A zs) (hl : zs.length ≤ 1048576) (v : Bool) (hv : hasB zs n = v) :
    Calls Try.prog 41 #[.slice A k c, .int .i64 n] w fun e w' => e = .returned (.bool v) ∧ w = w' := by
  subst hk hv
  exact qHas_any zs A c n w hr (by omega)
set_option maxHeartbeats 2000000 in
theorem qKeys_t (key pages : Int) (xs : List Int) (A A' : Option Addr) (k k' c c' : Nat) {l h l' h' : Nat} (w : World) (hk : k = xs.length) (hk' : k' = xs.length) (hx : Rd w l h A xs) (hy : Rd w l' h' A' xs) (hl : xs.length ≤ 1048576) :
    Calls Try.prog 36 #[.agg #[.int .i64 key, .int .i64 pages, .slice A k c], .agg #[.int .i64 key, .int .i64 pages, .slice A' k' c']] w fun e w' => e = .returned (.bool true) ∧ Below w.heap.size w w' := by
  have hkH := Lib.hid hk
  have hkH' := Lib.hid hk'
  have hB0 := ((Below.refl w.heap.size w).alloc (Nat.le_refl _) (.cells #[.int .i64 key, .int .i64 pages, .slice A k c] 52)).alloc (by simp) (.cells #[.int .i64 key, .int .i64 pages, .slice A' k' c'] 52)
  have hx2 := (hx.alloc (.cells #[.int .i64 key, .int .i64 pages, .slice A k c] 52)).alloc (.cells #[.int .i64 key, .int .i64 pages, .slice A' k' c'] 52)
  have hy2 := (hy.alloc (.cells #[.int .i64 key, .int .i64 pages, .slice A k c] 52)).alloc (.cells #[.int .i64 key, .int .i64 pages, .slice A' k' c'] 52)
  clear hk hk'
  go_enter Try.func36, Try.ntmps36
  go_wp2_with fail
  (with_reducible refine (qInts_t xs A A' k k' c c' _ hkH.out hkH'.out hx2 hy2 hl).mono ?_)
  rintro e w' ⟨rfl, hb⟩
  have hbH := Lib.hid (hB0.trans (hb.mono (by simp; omega)))
  clear hb hB0
  go_wp2_with fail
  go_ret
  exact ⟨rfl, hbH.out⟩
set_option maxHeartbeats 4000000 in
theorem qLists_t (L : List (List Int)) (A A' : Option Addr) (k k' c c' : Nat) {l h l' h' : Nat} (w : World) (hk : k = L.length) (hk' : k' = L.length) (hx : RdI w l h A L) (hy : RdI w l' h' A' L) (hl : iszL L ≤ 1048576) :
    Calls Try.prog 26 #[.slice A k c, .slice A' k' c'] w fun e w' => e = .returned (.bool true) ∧ Below w.heap.size w w' := by
  subst hk hk'
  have hle := isz_len L
  have hB := Below.refl w.heap.size w
  go_enter Try.func26, Try.ntmps26
  go_wp2_with fail
  go_loopw [5, 13] (fun _ i wr => ∃ k : Nat, k ≤ L.length ∧ i = .int .i64 k ∧ Below w.heap.size w wr) (fun _ i _ => L.length - (intOf i).toNat)
  case atStart => exact ⟨0, Nat.zero_le _, rfl, hB⟩
  case round =>
    clear hB
    obtain ⟨k, hk, rfl, hB⟩ := hrel
    by_cases hlt : k < L.length
    · obtain ⟨b, off, rfl, _, _, hc⟩ := (hx.st hB) (by omega)
      obtain ⟨b', off', rfl, _, _, hc'⟩ := (hy.st hB) (by omega)
      obtain ⟨A1, c1, x0, r1⟩ := hc k hlt
      obtain ⟨A2, c2, x1, r2⟩ := hc' k hlt
      have hxl := isz_at L k hlt
      have hx0 : (0 : Int) ≤ (k : Int) := by omega
      have hx1 : (k : Int) < (L.length : Int) := by omega
      obtain ⟨xs, hxs⟩ : ∃ xs, xs = L[k] := ⟨_, rfl⟩
      rw [← hxs] at x0 x1 r1 r2 hxl
      have xl := World.block_lt_of_cell? wr _ x0
      have xl' := World.block_lt_of_cell? wr _ x1
      dsimp only at xl xl'
      have hxsl : xs.length ≤ 1048576 := by omega
      have r1d := r1.drew
      have r2d := r2.drew
      have hBH := Lib.hid hB.drew
      have hsH := Lib.hid hB.size
      clear hc hc' hx hy hxs hB r1 r2
      go_wp2_with fail
      go_region_held3 (fun w' => w'.cell? ⟨b, off + k, none⟩ = some (.slice A1 xs.length c1) ∧ w'.cell? ⟨b', off' + k, none⟩ = some (.slice A2 xs.length c2))
        (((try go_split_ands); (try dsimp only); (repeat' apply And.intro) <;> (first | assumption | ((refine (hc7 _ _ ?_).trans ?_) <;> assumption))))
        (first
          | (go_at_call 23; ((with_reducible refine (qInts_t xs A1 A2 xs.length xs.length c1 c2 _ rfl rfl r1d r2d hxsl).mono ?_); rintro e w7 ⟨rfl, hb7⟩; (have hc7 := (bcell hb7).1))))
      all_goals
        have hBK := Lib.hid (hBH.out.trans (hb7.mono hsH.out))
        clear hb7 hc7 r1d r2d x0 x1 xl xl'
        go_wp2_with fail
        go_roundw
        case rel => exact ⟨k + 1, by omega, by go_num, hBK.out⟩
        case measure => simp [intOf]; omega
    · have hlt2 : ¬ ((k : Int) < (L.length : Int)) := by omega
      have hBH := Lib.hid hB
      clear hB
      go_wp2_with fail
      go_ret
      exact ⟨rfl, hBH.out⟩
set_option maxHeartbeats 4000000 in
theorem qSecret_t (xs ys : List Int) (A A' B B' : Option Addr) (k k' n n' c c' d d' : Nat) {l h l' h' l2 h2 l3 h3 : Nat} (w : World) (hk : k = xs.length) (hk' : k' = xs.length) (hn : n = ys.length) (hn' : n' = ys.length) (hx : Rd w l h A xs) (hy : Rd w l' h' A' xs) (hx2 : Rd w l2 h2 B ys) (hy2 : Rd w l3 h3 B' ys) (hl : xs.length ≤ 1048576) (hl2 : ys.length ≤ 1048576) :
    Calls Try.prog 37 #[.agg #[.slice A k c, .slice B n d], .agg #[.slice A' k' c', .slice B' n' d']] w fun e w' => e = .returned (.bool true) ∧ Below w.heap.size w w' := by
  have hkH := Lib.hid hk
  have hkH' := Lib.hid hk'
  have hnH := Lib.hid hn
  have hnH' := Lib.hid hn'
  clear hk hk' hn hn'
  have hB0 := ((Below.refl w.heap.size w).alloc (Nat.le_refl _) (.cells #[.slice A k c, .slice B n d] 56)).alloc (by simp) (.cells #[.slice A' k' c', .slice B' n' d'] 56)
  have b1 := (Bk.new w 56 #[.slice A k c, .slice B n d]).alloc (.cells #[.slice A' k' c', .slice B' n' d'] 56)
  have b2 := Bk.new2 w (.cells #[.slice A k c, .slice B n d] 56) 56 #[.slice A' k' c', .slice B' n' d']
  replace hx := (hx.alloc (.cells #[.slice A k c, .slice B n d] 56)).alloc (.cells #[.slice A' k' c', .slice B' n' d'] 56)
  replace hy := (hy.alloc (.cells #[.slice A k c, .slice B n d] 56)).alloc (.cells #[.slice A' k' c', .slice B' n' d'] 56)
  replace hx2 := (hx2.alloc (.cells #[.slice A k c, .slice B n d] 56)).alloc (.cells #[.slice A' k' c', .slice B' n' d'] 56)
  replace hy2 := (hy2.alloc (.cells #[.slice A k c, .slice B n d] 56)).alloc (.cells #[.slice A' k' c', .slice B' n' d'] 56)
  have hB0H := Lib.hid hB0
  have hsz : w.heap.size ≤ ((w.alloc (.cells #[.slice A k c, .slice B n d] 56)).alloc (.cells #[.slice A' k' c', .slice B' n' d'] 56)).heap.size := hB0.size
  have hszH := Lib.hid hsz
  have b1H := Lib.hid b1
  have b2H := Lib.hid b2
  clear hB0 hsz b1 b2
  go_enter Try.func37, Try.ntmps37
  go_wp2_with fail
  (with_reducible refine (qInts_t xs A A' k k' c c' _ hkH.out hkH'.out hx hy hl).mono ?_)
  rintro e w1 ⟨rfl, hb⟩
  have y1 := (b1H.out.st hb).cell 1
  have y2 := (b2H.out.st hb).cell 1
  have yl1 := (b1H.out.st hb).lt
  have yl2 := (b2H.out.st hb).lt
  simp at y1 y2
  replace hx2 := hx2.st hb
  replace hy2 := hy2.st hb
  have hbH := Lib.hid (hB0H.out.trans (hb.mono hszH.out))
  have hs1H := Lib.hid (Nat.le_trans hszH.out hb.size)
  clear hb hB0H hszH b1H b2H hx hy
  go_wp2_with fail
  (with_reducible refine (qInts_t ys B B' n n' d d' _ hnH.out hnH'.out hx2 hy2 hl2).mono ?_)
  rintro e w2 ⟨rfl, hb⟩
  have hb2H := Lib.hid (hbH.out.trans (hb.mono hs1H.out))
  clear hb y1 y2 yl1 yl2 hx2 hy2
  go_wp2_with fail
  go_ret
  exact ⟨rfl, hb2H.out⟩
end Go.Proofs.Yteajjbfecpffeaa
