/-
  The walk through FnPages. The conditions are bounds on lengths.
-/
import Derived.Test.YtbagliaelolhcaaCurP
import Derived.Test.YtbagliaelolhcaaLawB
import Derived.Test.YtbagliaelolhcaaFactP
import Derived.Test.YtbagliaelolhcaaForLenS
import Derived.Deep.DeepCutAuto
import Derived.Deep.CutBlock
namespace Go.Proofs.Ytbagliaelolhcaa
open Go.RowKit Go.ChangeShapes Go.WideShapes
set_option linter.unusedVariables false
set_option linter.unusedSimpArgs false

theorem iPageMix_w (zs : List Int) (A : Option Addr) (k c : Nat) {l h : Nat} (w : World) (hk : k = zs.length) (hr : Rd w l h A zs) (hl : zs.length ≤ 9223372036854775807) (V : Int) (b : Bool) (hV : pmV zs = V) (hb : pmB zs = b) :
    Calls Try.prog 62 #[.slice A k c] w fun e w' => e = .returned (.tuple #[.int .i64 V, .bool b]) ∧ Below w.heap.size w w' := by
  subst hk hV hb; exact iPageMix_any zs A c w hr hl
theorem sPageMix_w (zs : List Int) (A : Option Addr) (k c : Nat) {l h : Nat} (w : World) (hk : k = zs.length) (hr : Rd w l h A zs) (hl : zs.length ≤ 9223372036854775807) (V : Int) (b : Bool) (hV : pmV zs = V) (hb : pmB zs = b) :
    Calls Try.prog 63 #[.slice A k c] w fun e w' => e = .returned (.tuple #[.int .i64 V, .bool b]) ∧ Below w.heap.size w w' := by
  subst hk hV hb; exact sPageMix_any zs A c w hr hl

theorem iUseForLength_w (k1 p1 : Int) (z1 : List Int) (A1 : Option Addr) (c1 : Nat) (n : Int) {l h : Nat} (w : World) (hr0 : Rd w l h A1 z1) (hl : z1.length ≤ 1048576) (K G : Int) (U P : List Int) (b : Bool) (e : ufK k1 p1 z1 n = K ∧ ufG k1 p1 z1 n = G ∧ ufL k1 p1 z1 n = U ∧ ufN k1 p1 z1 n = P ∧ ufB k1 p1 z1 n = b) :
    Calls Try.prog 68 #[.agg #[.int .i64 k1, .int .i64 p1, .slice A1 z1.length c1], .int .i64 n] w (TwoOwn K G U P b w) := by
  obtain ⟨rfl, rfl, rfl, rfl, rfl⟩ := e; exact iUseForLength_any k1 p1 z1 A1 c1 n w hr0 hl
theorem sUseForLength_w (k1 p1 : Int) (z1 : List Int) (A1 : Option Addr) (c1 : Nat) (n : Int) {l h : Nat} (w : World) (hr0 : Rd w l h A1 z1) (hl : z1.length ≤ 1048576) (K G : Int) (U P : List Int) (b : Bool) (e : ufK k1 p1 z1 n = K ∧ ufG k1 p1 z1 n = G ∧ ufL k1 p1 z1 n = U ∧ ufN k1 p1 z1 n = P ∧ ufB k1 p1 z1 n = b) :
    Calls Try.prog 69 #[.agg #[.int .i64 k1, .int .i64 p1, .slice A1 z1.length c1], .int .i64 n] w (TwoRdC K G U P b w) := by
  obtain ⟨rfl, rfl, rfl, rfl, rfl⟩ := e; exact sUseForLength_c k1 p1 z1 A1 c1 n w hr0 hl

set_option maxRecDepth 100000 in
set_option maxHeartbeats 16000000 in
theorem fnPages_walk (A1 A2 : Option Addr) (n1 c1 n2 c2 : Nat) (w : World) (h1 : n1 ≤ c1) (h2 : n2 ≤ c2) (m1 : n1 ≤ 9223372036854775807) (m2 : n2 ≤ 9223372036854775807) (hcd1 : CodeAt w w.heap.size A1 n1) (hcd2 : CodeAt w w.heap.size A2 n2) :
    Calls Try.prog 10 #[.slice A1 n1 c1, .slice A2 n2 c2] w fun e w' => e = .returned (.bool true) ∧ Below w.heap.size w w' := by
  go_enter Try.func10, Try.ntmps10
  go_wp2_with fail
  (with_reducible refine (big_v A1 A2 n1 c1 n2 c2 _ m1 m2).mono ?_)
  rintro e w' (⟨rfl, hbig, rfl⟩ | ⟨rfl, rfl⟩)
  · go_wp2_with fail
    (with_reducible refine (drawKeyPage_any A1 n1 c1 _ hcd1 (by omega) h1).mono ?_)
    rintro e w1 ⟨key, pages, us, A, c, pg, rfl, hus, hown, hb1⟩
    have hr1 := hown.rd'
    have hl1 : w.heap.size ≤ w1.heap.size := hb1.size
    have hB2 := hb1.alloc hl1 (.cells #[.int .i64 key, .int .i64 pages, .slice A us.length c] 74)
    have bk2 := Bk.new w1 74 #[.int .i64 key, .int .i64 pages, .slice A us.length c]
    have hr2 := hr1.alloc (.cells #[.int .i64 key, .int .i64 pages, .slice A us.length c] 74)
    have hs2 := Lib.hid (show (w1.alloc (.cells #[.int .i64 key, .int .i64 pages, .slice A us.length c] 74)).heap.size = w1.heap.size + 1 by simp)
    have xl := bk2.lt
    have x0 := bk2.cell 0
    have x1 := bk2.cell 1
    have x2 := bk2.cell 2
    simp at x0 x1 x2
    clear hown hb1 hr1
    go_wp2_with fail
    (with_reducible refine (iKeyPage_any key pages us A c pg _ hr2 (by omega)).mono ?_)
    rintro e w3 ⟨A3, c3, rfl, ho3, hL, hb3⟩
    have hr3 := ho3.rd'
    have hB3 := hB2.trans (hb3.mono (by have := hs2.out; omega))
    have hl3 : w1.heap.size + 1 ≤ w3.heap.size := by have := hb3.size; have := hs2.out; omega
    have bk3 := bk2.st hb3
    have hr2' := hr2.std.below hb3 (by have := hs2.out; omega)
    have y0 := bk3.cell 0
    have y1 := bk3.cell 1
    have y2 := bk3.cell 2
    simp at y0 y1 y2
    clear ho3 hb3 hB2 bk2 hr2 x0 x1 x2 xl
    go_wp2_with fail
    (with_reducible refine (sKeyPage_any key pages us A c pg _ hr2' (by omega)).mono ?_)
    rintro e w4 ⟨A4, c4, rfl, hr4, hL4, hb4⟩
    have hB4 := hB3.trans (hb4.mono (by omega))
    have hl4 : w3.heap.size ≤ w4.heap.size := hb4.size
    have bk4 := bk3.st hb4
    have hr3' := hr3.below hb4 (Nat.le_refl _)
    clear hb4 hB3 bk3 hr3 hr2' y0 y1 y2
    have z0 := bk4.cell 0
    have z1 := bk4.cell 1
    have z2 := bk4.cell 2
    simp at z0 z1 z2
    have hpw := pgL_len (k1 := key) (p1 := pages) (z1 := us) (page := pg)
    obtain ⟨L, hLe⟩ : ∃ L, L = pgL key pages us pg := ⟨_, rfl⟩
    obtain ⟨b, hbe⟩ : ∃ b, b = pgB key pages us pg := ⟨_, rfl⟩
    rw [← hLe] at hr3' hr4 hL ⊢
    rw [← hbe] at ⊢
    have hL20 : b = true → L.length = 20 := fun h => by rw [hLe]; exact hpw (hbe ▸ h)
    have hLm : b = true → ∀ k : Nat, k < 20 → pmB [key, pg, (k : Int)] = true ∧ (0 ≤ pmV [key, pg, (k : Int)] ∧ pmV [key, pg, (k : Int)] < 1000003) ∧ ∀ (hl : k < L.length), L[k] = pmV [key, pg, (k : Int)] % 60 := fun h k hk => by
      subst hLe
      exact page_mix (k1 := key) (p1 := pages) (z1 := us) (page := pg) (hbe ▸ h) hk
    have hL20H := Lib.hid hL20
    have hLmH := Lib.hid hLm
    clear hLe hbe hpw hL20 hLm
    go_wp2_with fail
    (with_reducible refine (sameInts_t L A3 A4 L.length L.length c3 c4 _ rfl rfl hr3' hr4 hL).mono ?_)
    rintro e w5 ⟨rfl, hb5⟩
    have hB5 := hB4.trans (hb5.mono (by omega))
    have hl5 : w4.heap.size ≤ w5.heap.size := hb5.size
    have bk5 := bk4.st hb5
    have hr5 := hr4.below hb5 (Nat.le_refl _)
    have xl := bk5.lt
    have x0 := bk5.cell 0
    simp at x0
    clear hb5 hB4 bk4 hr4 hr3' z0 z1 z2
    go_upto_if 68 with fail
    go_cut [] (fun wq => Below w.heap.size w wq)
    case first =>
      as_aux_lemma =>
        cases b with
        | false =>
          go_wp2_with fail
          go_meet
          case rel => exact hB5
        | true =>
          have hlen := hL20H.out rfl
          have hn20 : ((L.length : Int) != 20) = false := by rw [hlen]; rfl
          have hmix := Lib.hid (hLmH.out rfl)
          have hlenH := Lib.hid hlen
          clear hlen
          go_wp2_with fail
          go_loopw [74] (fun i wr => ∃ k : Nat, k ≤ 20 ∧ i = .int .i64 k ∧ Below w.heap.size w wr ∧ Bk wr w1.heap.size 74 #[.int .i64 key, .int .i64 pages, .slice A us.length c] ∧ Rd wr 0 wr.heap.size A4 L) (fun i _ => 20 - (intOf i).toNat)
          case atStart => exact ⟨0, by omega, rfl, hB5, bk5, hr5.std.mono (Nat.zero_le _) (Nat.le_refl _)⟩
          case round =>
            clear hB5 bk5 hr5 x0 xl
            obtain ⟨k, hk, rfl, hBr, bkr, hrr⟩ := hrel
            by_cases hlt : k < 20
            · obtain ⟨q1, ⟨q2, q3⟩, q4⟩ := hmix.out k hlt
              have hkL : k < L.length := by rw [hlenH.out]; exact hlt
              obtain ⟨b4, off4, rfl, _, _, hcell⟩ := hrr (by omega)
              have hck := hcell k hkL
              have e4 := Lib.hid (q4 hkL)
              obtain ⟨V, hV⟩ : ∃ V, V = pmV [key, pg, (k : Int)] := ⟨_, rfl⟩
              rw [← hV] at q2 q3 e4
              have hq1 := Lib.hid q1
              have hm : V.tmod 60 = V % 60 := Int.tmod_eq_emod_of_nonneg q2
              have hcmp : (L[k] != V.tmod 60) = false := by rw [hm, e4.out]; simp
              have hcmp2 : (L[k] != V % 60) = false := by rw [e4.out]; simp
              have hlw : w1.heap.size < wr.heap.size := bkr.lt
              have xk := bkr.cell 0
              simp at xk
              obtain ⟨o1, ho1⟩ : ∃ o, o = Obj.cells #[.int .i64 key, .int .i64 pg, .int .i64 (k : Int)] 3 (0, 0) := ⟨_, rfl⟩
              have hra : Rd (wr.alloc o1) wr.heap.size (wr.heap.size + 1) (some ⟨wr.heap.size, 0, none⟩) [key, pg, (k : Int)] := by rw [ho1]; exact Rd.one wr _ _ [key, pg, (k : Int)] rfl
              have hBa := hBr.alloc (by omega) o1
              have bka := bkr.alloc o1
              have hrra := hrr.alloc o1
              have hsa := Lib.hid (show (wr.alloc o1).heap.size = wr.heap.size + 1 by simp)
              have hrrH := Lib.hid hrra
              have hVH := Lib.hid hV
              clear q1 q4 hcell hrr hrra hm hV bkr hBr
              go_wp2_with fail
              rw [← ho1]
              (with_reducible refine (iPageMix_w [key, pg, (k : Int)] _ 3 3 _ rfl hra (by simp) V true hVH.out.symm hq1.out).mono ?_)
              rintro e w7 ⟨rfl, hb7⟩
              have hlw7 : wr.heap.size + 1 ≤ w7.heap.size := by have := hb7.size; have := hsa.out; omega
              have hB7 := hBa.trans (hb7.mono (by have := hsa.out; omega))
              have bk7 := bka.st hb7
              have hr7 := hrrH.out.below hb7 (by have := hsa.out; omega)
              have xk7 := bk7.cell 0
              simp at xk7
              clear hb7 hBa bka hra ho1 xk
              obtain ⟨o2, ho2⟩ : ∃ o, o = Obj.cells #[.int .i64 key, .int .i64 pg, .int .i64 (k : Int)] 3 (0, 0) := ⟨_, rfl⟩
              have hra : Rd (w7.alloc o2) w7.heap.size (w7.heap.size + 1) (some ⟨w7.heap.size, 0, none⟩) [key, pg, (k : Int)] := by rw [ho2]; exact Rd.one w7 _ _ [key, pg, (k : Int)] rfl
              have hBa := hB7.alloc (by omega) o2
              have bka := bk7.alloc o2
              have hsa7 := Lib.hid (show (w7.alloc o2).heap.size = w7.heap.size + 1 by simp)
              have hrr7 := Lib.hid (hr7.alloc o2)
              clear bk7 hr7 hB7
              go_wp2_with fail
              rw [← ho2]
              (with_reducible refine (sPageMix_w [key, pg, (k : Int)] _ 3 3 _ rfl hra (by simp) V true hVH.out.symm hq1.out).mono ?_)
              rintro e w8 ⟨rfl, hb8⟩
              have hlw8 : w7.heap.size + 1 ≤ w8.heap.size := by have := hb8.size; have := hsa7.out; omega
              have hB8 := Lib.hid (hBa.trans (hb8.mono (by have := hsa7.out; omega)))
              have bk8 := Lib.hid (bka.st hb8)
              have hr8 := Lib.hid ((hrr7.out.below hb8 (by have := hsa7.out; omega)).mono (Nat.zero_le _) (show wr.heap.size ≤ w8.heap.size by omega))
              have hkk : ((k : Nat) + 1 ≤ 20) := by omega
              clear hb8 hBa bka hra ho2 xk7
              go_wp2_with fail
              go_roundw
              case rel => exact ⟨k + 1, hkk, by go_num, hB8.out, bk8.out, hr8.out⟩
              case measure => simp [intOf]; omega
            · obtain rfl : k = 20 := by omega
              have hLl : (L.length : Int) = 20 := by rw [hlenH.out]; rfl
              go_wp2_with fail
              go_meet
              case rel => exact hBr
    case rest =>
      as_aux_lemma =>
        have hBc := hcut
        clear hcut hL20H hLmH hB5 bk5 hr5 x0 xl
        have hlc : w.heap.size ≤ wc.heap.size := hBc.size
        obtain ⟨wd, rfl⟩ : ∃ wd, wd = wc := ⟨_, rfl⟩
        have hcdc : CodeAt wd wd.heap.size A2 n2 := (hcd2.keep fun b o h1 h2 => World.cell?_of_block (w := w) (hBc.block b h2)).up hlc
        go_wp2_with fail
        (with_reducible refine (drawSameNumbers_any A2 n2 c2 _ hcdc (by omega) h2).mono ?_)
        rintro e w9 ⟨key2, pages2, us2, B, d2, pp, qq, rfl, hus2, hown2, hb9⟩
        have hl9 : wd.heap.size ≤ w9.heap.size := hb9.size
        have hB9 := hBc.trans (hb9.mono hlc)
        have hr9 := hown2.rd'
        have hB2 := hB9.alloc (by omega) (.cells #[.int .i64 key2, .int .i64 pages2, .slice B us2.length d2] 74)
        have bk2 := Bk.new w9 74 #[.int .i64 key2, .int .i64 pages2, .slice B us2.length d2]
        have hr2 := hr9.alloc (.cells #[.int .i64 key2, .int .i64 pages2, .slice B us2.length d2] 74)
        have hs2 := Lib.hid (show (w9.alloc (.cells #[.int .i64 key2, .int .i64 pages2, .slice B us2.length d2] 74)).heap.size = w9.heap.size + 1 by simp)
        have xl := bk2.lt
        have x0 := bk2.cell 0
        have x1 := bk2.cell 1
        have x2 := bk2.cell 2
        simp at x0 x1 x2
        clear hown2 hb9 hr9 hcdc hBc hB9
        go_wp2_with fail
        (with_reducible refine (iSameNumbers_any key2 pages2 us2 B d2 pp qq _ hr2 (by omega)).mono ?_)
        rintro e w3 ⟨A3, c3, rfl, ho3, hL, hb3⟩
        have hr3 := ho3.rd'
        have hB3 := hB2.trans (hb3.mono (by have := hs2.out; omega))
        have hl3 : w9.heap.size + 1 ≤ w3.heap.size := by have := hb3.size; have := hs2.out; omega
        have bk3 := bk2.st hb3
        have hr2' := hr2.std.below hb3 (by have := hs2.out; omega)
        have y0 := bk3.cell 0
        have y1 := bk3.cell 1
        have y2 := bk3.cell 2
        simp at y0 y1 y2
        clear ho3 hb3 hB2 bk2 hr2 x0 x1 x2 xl
        go_wp2_with fail
        (with_reducible refine (sSameNumbers_any key2 pages2 us2 B d2 pp qq _ hr2' (by omega)).mono ?_)
        rintro e w4 ⟨A4, c4, rfl, hr4, hL4, hb4⟩
        have hB4 := hB3.trans (hb4.mono (by omega))
        have hl4 : w3.heap.size ≤ w4.heap.size := hb4.size
        have hr3' := hr3.below hb4 (Nat.le_refl _)
        clear hb4 hB3 bk3 hr3 hr2' y0 y1 y2
        have hself := fun h => snL_self (k1 := key2) (p1 := pages2) (z1 := us2) (p := pp) h
        obtain ⟨L, hLe⟩ : ∃ L, L = snL key2 pages2 us2 pp qq := ⟨_, rfl⟩
        obtain ⟨b, hbe⟩ : ∃ b, b = snB key2 pages2 us2 pp qq := ⟨_, rfl⟩
        rw [← hLe] at hr3' hr4 hL ⊢
        rw [← hbe] at ⊢
        have hL20H := Lib.hid (show b = true → pp = qq → L.length = 20 from fun h e => by subst e; rw [hLe]; exact hself (hbe ▸ h))
        clear hself hLe hbe
        go_upto_region 22 with fail
        go_cut [156] (fun s wq => s = .bool false ∧ Below w.heap.size w wq)
        case first =>
          as_aux_lemma =>
            go_wp2_with fail
            (with_reducible refine (sameInts_t L A3 A4 L.length L.length c3 c4 _ rfl rfl hr3' hr4 hL).mono ?_)
            rintro e w5 ⟨rfl, hb5⟩
            have hB5 := Lib.hid (hB4.trans (hb5.mono (by omega)))
            clear hb5 hB4 hr4 hr3'
            cases b with
            | false =>
              go_wp2_with fail
              go_meet
              case rel => exact ⟨rfl, hB5.out⟩
            | true =>
              by_cases hpq : pp = qq
              · have hlen : ((L.length : Int) != 20) = false := by rw [hL20H.out rfl hpq]; rfl
                have hq : (pp == qq) = true := by simp [hpq]
                clear hpq
                go_wp2_with fail
                go_meet
                case rel => exact ⟨rfl, hB5.out⟩
              · have hq : (pp == qq) = false := by simp [hpq]
                clear hpq
                go_wp2_with fail
                go_meet
                case rel => exact ⟨rfl, hB5.out⟩
        case rest =>
          as_aux_lemma =>
            obtain ⟨rfl, hBc⟩ := hcut
            clear hL20H hB4 hr4 hr3' hl3 hl4 hl9
            have hlc2 : w.heap.size ≤ wc.heap.size := hBc.size
            obtain ⟨we, rfl⟩ : ∃ we, we = wc := ⟨_, rfl⟩
            have hcdc : CodeAt we we.heap.size A2 n2 := (hcd2.keep fun b o h1 h2 => World.cell?_of_block (w := w) (hBc.block b h2)).up hlc2
            go_wp2_with fail
            (with_reducible refine (drawUseForLength_any A2 n2 c2 _ hcdc (by omega) h2).mono ?_)
            rintro e w19 ⟨key3, pages3, us3, B3, d3, nn, rfl, hus3, hnn, hown3, hb19⟩
            have hl19 : we.heap.size ≤ w19.heap.size := hb19.size
            have hB19 := hBc.trans (hb19.mono hlc2)
            have hr19 := hown3.rd'
            have hB2 := hB19.alloc (by omega) (.cells #[.int .i64 key3, .int .i64 pages3, .slice B3 us3.length d3] 74)
            have bk2 := Bk.new w19 74 #[.int .i64 key3, .int .i64 pages3, .slice B3 us3.length d3]
            have hr2 := hr19.alloc (.cells #[.int .i64 key3, .int .i64 pages3, .slice B3 us3.length d3] 74)
            have hs2 := Lib.hid (show (w19.alloc (.cells #[.int .i64 key3, .int .i64 pages3, .slice B3 us3.length d3] 74)).heap.size = w19.heap.size + 1 by simp)
            have xl := bk2.lt
            have x0 := bk2.cell 0
            have x1 := bk2.cell 1
            have x2 := bk2.cell 2
            simp at x0 x1 x2
            clear hown3 hb19 hr19 hcdc hBc hB19
            go_wp2_with fail
            obtain ⟨K, G, U, P, b, hUe, hfac, hat⟩ : ∃ K G U P b, (ufK key3 pages3 us3 nn = K ∧ ufG key3 pages3 us3 nn = G ∧ ufL key3 pages3 us3 nn = U ∧ ufN key3 pages3 us3 nn = P ∧ ufB key3 pages3 us3 nn = b) ∧ (b = true → ∃ m : Nat, P.length = m ∧ U.length = us3.length + m ∧ m ≤ 60 ∧ nn ≤ 20 * (m : Int) ∧ 20 * (m : Int) < nn + 20 ∧ 0 ≤ nn) ∧ (b = true → ∀ i (hi : i < P.length), hasB us3 P[i] = false ∧ hasB U P[i] = true ∧ hasB (P.take i) P[i] = false) :=
              ⟨_, _, _, _, _, ⟨rfl, rfl, rfl, rfl, rfl⟩, fun h => by
                obtain ⟨_, f2, _, f4, f5, f6, f7, f8⟩ := uf_facts h
                exact ⟨_, f4, f5, f6, f7, f8, f2.1⟩, fun h i hi => uf_at h hi⟩
            have hUeH := Lib.hid hUe
            have hfacH := Lib.hid hfac
            have hatH := Lib.hid hat
            clear hUe hfac hat
            (with_reducible refine (iUseForLength_w key3 pages3 us3 B3 d3 nn _ hr2 (by omega) K G U P b hUeH.out).mono ?_)
            rintro e w3 ⟨Ai, ci, Bi, di, il1, ir1, il2, ir2, rfl, oi1, oi2, hil, hiL1, hiL2, hb3⟩
            have hB3 := hB2.trans (hb3.mono (by have := hs2.out; omega))
            have hl3 : w19.heap.size + 1 ≤ w3.heap.size := by have := hb3.size; have := hs2.out; omega
            have bk3 := (bk2.st hb3).alloc (.cells #[.int .i64 K, .int .i64 G, .slice Ai U.length ci] 74)
            have hr3 := (hr2.std.below hb3 (by have := hs2.out; omega)).alloc (.cells #[.int .i64 K, .int .i64 G, .slice Ai U.length ci] 74)
            have ri1 := oi1.rd'.alloc (.cells #[.int .i64 K, .int .i64 G, .slice Ai U.length ci] 74)
            have ri2 := oi2.rd'.alloc (.cells #[.int .i64 K, .int .i64 G, .slice Ai U.length ci] 74)
            have hBi := hB3.alloc (by omega) (.cells #[.int .i64 K, .int .i64 G, .slice Ai U.length ci] 74)
            have bui := Bk.new w3 74 #[.int .i64 K, .int .i64 G, .slice Ai U.length ci]
            have hsi := Lib.hid (show (w3.alloc (.cells #[.int .i64 K, .int .i64 G, .slice Ai U.length ci] 74)).heap.size = w3.heap.size + 1 by simp)
            have xl := bk3.lt
            have x0' := bk3.cell 0
            have x1' := bk3.cell 1
            have x2' := bk3.cell 2
            simp at x0' x1' x2'
            clear hb3 oi1 oi2 bk2 hr2 hB2 hB3 x0 x1 x2
            go_wp2_with fail
            (with_reducible refine (sUseForLength_w key3 pages3 us3 B3 d3 nn _ hr3 (by omega) K G U P b hUeH.out).mono ?_)
            rintro e w4 ⟨As, cs, Bs, ds, rfl, rs1, rs2, hsL1, hsL2, hsc, hb4⟩
            have hB4 := (hBi.trans (hb4.mono (by have := hsi.out; omega)))
            have hl4 : w3.heap.size + 1 ≤ w4.heap.size := by have := hb4.size; have := hsi.out; omega
            have bk4 := (bk3.st hb4).alloc (.cells #[.int .i64 K, .int .i64 G, .slice As U.length cs] 74)
            have bu4 := (bui.st hb4).alloc (.cells #[.int .i64 K, .int .i64 G, .slice As U.length cs] 74)
            have bs4 := Bk.new w4 74 #[.int .i64 K, .int .i64 G, .slice As U.length cs]
            have rv4 := (hr3.std.below hb4 (Nat.le_refl _)).alloc (.cells #[.int .i64 K, .int .i64 G, .slice As U.length cs] 74)
            have ru4 := (ri1.below hb4 (by have := hsi.out; omega)).alloc (.cells #[.int .i64 K, .int .i64 G, .slice As U.length cs] 74)
            have rp4 := (ri2.below hb4 (by have := hsi.out; omega)).alloc (.cells #[.int .i64 K, .int .i64 G, .slice As U.length cs] 74)
            have rsu4 := rs1.alloc (.cells #[.int .i64 K, .int .i64 G, .slice As U.length cs] 74)
            have rsp4 := rs2.alloc (.cells #[.int .i64 K, .int .i64 G, .slice As U.length cs] 74)
            have hB5 := hB4.alloc (by omega) (.cells #[.int .i64 K, .int .i64 G, .slice As U.length cs] 74)
            have hs4 := Lib.hid (show (w4.alloc (.cells #[.int .i64 K, .int .i64 G, .slice As U.length cs] 74)).heap.size = w4.heap.size + 1 by simp)
            have xu := bu4.lt
            have xu0 := bu4.cell 0
            have xu1 := bu4.cell 1
            have xu2 := bu4.cell 2
            have xs0 := bs4.cell 0
            have xs1 := bs4.cell 1
            have xs2 := bs4.cell 2
            simp at xu0 xu1 xu2 xs0 xs1 xs2
            clear hb4 hBi hB4 bk3 bui hr3 ri1 ri2 rs1 rs2 x0' x1' x2'
            go_wp2_with fail
            (with_reducible refine (pSameKeys_t K G U Ai As U.length U.length ci cs _ rfl rfl ru4 rsu4 hsL1).mono ?_)
            rintro e w6 ⟨rfl, hb6⟩
            have hB6 := hB5.trans (hb6.mono (by have := hs4.out; omega))
            have hl6 : w4.heap.size + 1 ≤ w6.heap.size := by have := hb6.size; have := hs4.out; omega
            have bk6 := bk4.st hb6
            have bs6 := bs4.st hb6
            have rv6 := rv4.std.below hb6 (Nat.le_refl _)
            have rp6 := rp4.below hb6 (by have := hs4.out; omega)
            have rsu6 := rsu4.below hb6 (by have := hs4.out; omega)
            have rsp6 := rsp4.below hb6 (by have := hs4.out; omega)
            clear hb6 hB5 bk4 bu4 bs4 rv4 rp4 rsu4 rsp4 ru4 xu0 xu1 xu2 xs0 xs1 xs2 xu
            go_wp2_with fail
            (with_reducible refine (sameInts_t P Bi Bs P.length P.length di ds _ rfl rfl rp6 rsp6 hsL2).mono ?_)
            rintro e w7 ⟨rfl, hb7⟩
            have hB7 := hB6.trans (hb7.mono (by omega))
            have hl7 : w6.heap.size ≤ w7.heap.size := hb7.size
            have bk7 := bk6.st hb7
            have bs7 := bs6.st hb7
            have rv7 := rv6.std.below hb7 (Nat.le_refl _)
            have rsu7 := rsu6.below hb7 (by omega)
            have rsp7 := rsp6.below hb7 (by omega)
            clear hb7 hB6 bk6 bs6 rv6 rp6 rsu6 rsp6
            go_upto_if 191 with fail
            go_cut [] (fun wq => Below w.heap.size w wq)
            case first =>
              as_aux_lemma =>
                cases b with
                | false =>
                  go_wp2_with fail
                  go_meet
                  case rel => exact hB7
                | true =>
                  obtain ⟨m, hPm, hUm, hm60, hn1, hn2, hn0⟩ := hfacH.out rfl
                  have v1 : IntKind.i64.wrap ((P.length : Int) * 20) = (P.length : Int) * 20 := IntWalk.i64_in _ (by omega)
                  have v2 : ¬ ((P.length : Int) * 20 < nn) := by omega
                  have v3 : IntKind.i64.wrap ((P.length : Int) - 1) = (P.length : Int) - 1 := IntWalk.i64_in _ (by omega)
                  have v4 : IntKind.i64.wrap (((P.length : Int) - 1) * 20) = ((P.length : Int) - 1) * 20 := IntWalk.i64_in _ (by omega)
                  have v5 : ¬ (nn ≤ ((P.length : Int) - 1) * 20) := by omega
                  have v6 : IntKind.i64.wrap ((us3.length : Int) + (P.length : Int)) = (us3.length : Int) + (P.length : Int) := IntWalk.i64_in _ (by omega)
                  have v7 : ((U.length : Int) != (us3.length : Int) + (P.length : Int)) = false := by rw [hUm, hPm]; simp
                  have hPmH := Lib.hid hPm
                  have hUmH := Lib.hid hUm
                  have xk := bk7.lt
                  have xs := bs7.lt
                  have xk2 := bk7.cell 2
                  have xs2 := bs7.cell 2
                  simp at xk2 xs2
                  have hPl60 : P.length ≤ 60 := by omega
                  clear hPm hUm
                  go_wp2_with fail
                  go_loopw [223] (fun i wr => ∃ k : Nat, k ≤ P.length ∧ i = .int .i64 k ∧ w7 = wr) (fun i _ => P.length - (intOf i).toNat)
                  case atStart => exact ⟨0, Nat.zero_le _, rfl, rfl⟩
                  case round =>
                    obtain ⟨k, hk, rfl, rfl⟩ := hrel
                    clear v1 v2 v3 v4 v5 v6 v7
                    by_cases hlt : k < P.length
                    · obtain ⟨q1, q2, q3⟩ := hatH.out (by first | rfl | trivial) k hlt
                      obtain ⟨b4, off4, rfl, z1, z2, hcell⟩ := rsp7 (by omega)
                      have hck := hcell k hlt
                      have htk : Rd w7 0 w7.heap.size (some ⟨b4, off4, none⟩) (P.take k) := Rd.take (fun _ => ⟨b4, off4, rfl, Nat.zero_le _, World.block_lt_of_cell? w7 _ hck, hcell⟩) k
                      obtain ⟨x, hx⟩ : ∃ x, x = P[k] := ⟨_, rfl⟩
                      rw [← hx] at q1 q2 q3 hck
                      have q1H := Lib.hid q1
                      have q2H := Lib.hid q2
                      have q3H := Lib.hid q3
                      have hds : (k : Int) ≤ (ds : Int) := by omega
                      have hk0 : (0 : Int) ≤ (k : Int) := by omega
                      have hkk : k ≤ ds := by omega
                      have hltk : (k : Int) < (P.length : Int) := by omega
                      clear q1 q2 q3 hcell hx
                      go_wp2_with fail
                      (with_reducible refine (pIn_v us3 B3 us3.length d3 x _ rfl rv7 (by omega) false q1H.out).mono ?_)
                      rintro e w' ⟨rfl, rfl⟩
                      go_wp2_with fail
                      (with_reducible refine (pIn_v U As U.length cs x _ rfl rsu7 hsL1 true q2H.out).mono ?_)
                      rintro e w' ⟨rfl, rfl⟩
                      go_wp2_with fail
                      (with_reducible refine (pIn_v (P.take k) (some ⟨b4, off4, none⟩) k ds x _ (by rw [List.length_take]; omega) htk (by rw [List.length_take]; omega) false q3H.out).mono ?_)
                      rintro e w' ⟨rfl, rfl⟩
                      have hk1 : k + 1 ≤ P.length := by omega
                      go_wp2_with fail
                      go_roundw
                      case rel => exact ⟨k + 1, hk1, by go_num, by first | rfl | trivial⟩
                      case measure => simp [intOf]; omega
                    · have hlt2 : ¬ ((k : Int) < (P.length : Int)) := by omega
                      go_wp2_with fail
                      go_meet
                      case rel => exact hB7
            case rest =>
              as_aux_lemma =>
                have hBc := hcut
                clear hcut hB7 bk7 bs7 rv7 rsu7 rsp7 hfacH hatH hUeH
                have hlc3 : w.heap.size ≤ wc.heap.size := hBc.size
                obtain ⟨wg, rfl⟩ : ∃ wg, wg = wc := ⟨_, rfl⟩
                have hcdc : CodeAt wg wg.heap.size A2 n2 := (hcd2.keep fun b o h1 h2 => World.cell?_of_block (w := w) (hBc.block b h2)).up hlc3
                go_wp2_with fail
                (with_reducible refine (drawPageMix_any A2 n2 c2 _ hcdc (by omega) h2).mono ?_)
                rintro e w29 ⟨zs, C, c, rfl, hzs, hown9, hb29⟩
                have hl29 : wg.heap.size ≤ w29.heap.size := hb29.size
                have hB29 := hBc.trans (hb29.mono hlc3)
                have hr29 := hown9.rd'
                obtain ⟨V, hV⟩ : ∃ V, V = pmV zs := ⟨_, rfl⟩
                obtain ⟨b, hb⟩ : ∃ b, b = pmB zs := ⟨_, rfl⟩
                have hVb : 0 ≤ V ∧ V < 1000003 := by rw [hV]; exact pmV_bd zs
                have hVH := Lib.hid hV
                have hbH := Lib.hid hb
                clear hV hb hb29 hown9 hcdc hBc
                go_wp2_with fail
                (with_reducible refine (iPageMix_w zs C zs.length c _ rfl hr29 (by omega) V b hVH.out.symm hbH.out.symm).mono ?_)
                rintro e w30 ⟨rfl, hb30⟩
                have hl30 : w29.heap.size ≤ w30.heap.size := hb30.size
                have hB30 := hB29.trans (hb30.mono (by omega))
                have hr30 := hr29.std.below hb30 (Nat.le_refl _)
                clear hb30 hB29 hr29
                go_wp2_with fail
                (with_reducible refine (sPageMix_w zs C zs.length c _ rfl hr30 (by omega) V b hVH.out.symm hbH.out.symm).mono ?_)
                rintro e w31 ⟨rfl, hb31⟩
                have hB31 := Lib.hid (hB30.trans (hb31.mono (by omega)))
                clear hb31 hB30 hr30
                have g1 : 0 ≤ V := hVb.1
                have g2 : V < 1000003 := hVb.2
                clear hVb
                cases b with
                | false =>
                  go_wp2_with fail
                  go_ret
                  exact ⟨rfl, hB31.out⟩
                | true =>
                  go_wp2_with fail
                  go_ret
                  exact ⟨rfl, hB31.out⟩
  · go_wp2_with fail
    go_ret
    exact ⟨rfl, Below.refl _ _⟩
end Go.Proofs.Ytbagliaelolhcaa
