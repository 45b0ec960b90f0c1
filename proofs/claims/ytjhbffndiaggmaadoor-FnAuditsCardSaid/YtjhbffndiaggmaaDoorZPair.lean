/-
  Contracts of PairFaults, in the reference and in the program. The conditions are bounds on lengths.
-/
import Derived.Test.YtjhbffndiaggmaaDoorB26
import Derived.Test.YtjhbffndiaggmaaDoorB13
import Derived.Deep.RegionHeld3
namespace Go.Proofs.YtjhbffndiaggmaaDoor
open Go.RowKit Go.ChangeShapes Go.WideShapes
set_option linter.unusedVariables false
set_option linter.unusedSimpArgs false

set_option maxHeartbeats 2000000 in
theorem auKind_v (x : Ent) (A1 : Option Addr) (c1 : Nat) (A2 : Option Addr) (c2 : Nat) (b : List Ent) (B : Option Addr) (d : Nat) {l1 h1 l' h' : Nat} (w : World) (r2 : Rd w l1 h1 A2 x.shown) (hrb0 : RdE w l' h' B b) (hx : x.shown.length ≤ 1048576) (hlb : eszL b ≤ 1048576) (v : Int) (hv : pfK x b = v) :
    Calls Tryd.prog 57 #[.agg #[.int .i64 x.time, .int .i64 x.msg, .int .i64 x.part, .slice A1 x.seen.length c1, .slice A2 x.shown.length c2], .slice B b.length d] w fun e w' => e = .returned (.int .i64 v) ∧ Below w.heap.size w w' := by
  subst hv
  have hrb := hrb0.std
  clear hrb0
  have helb := esz_len b
  have bk := Bk.new w 46 #[.int .i64 x.time, .int .i64 x.msg, .int .i64 x.part, .slice A1 x.seen.length c1, .slice A2 x.shown.length c2]
  have y0 := bk.cell 0
  have y1 := bk.cell 1
  have y2 := bk.cell 2
  have y4 := bk.cell 4
  simp at y0 y1 y2 y4
  have hrb2 := hrb.alloc (.cells #[.int .i64 x.time, .int .i64 x.msg, .int .i64 x.part, .slice A1 x.seen.length c1, .slice A2 x.shown.length c2] 46)
  have hB1 := (Below.refl w.heap.size w).alloc (Nat.le_refl _) (.cells #[.int .i64 x.time, .int .i64 x.msg, .int .i64 x.part, .slice A1 x.seen.length c1, .slice A2 x.shown.length c2] 46)
  by_cases hn : 0 ≤ findI b x.msg x.part
  · obtain ⟨q, hq, hqn⟩ := findI_cast2 hn
    have hat := esz_at b q hqn
    clear hn
    cases hs : eqL b[q].seen x.shown with
    | false =>
      have hv := Lib.hid (pfK_2 hq hqn hs)
      go_enter Tryd.func57, Tryd.ntmps57
      go_wp2_with fail
      (with_reducible refine (lgFind_v b B d x.msg x.part _ hrb2 (by omega) _ hq).mono ?_)
      rintro e w2 ⟨rfl, hb2⟩
      have s2 : w.heap.size + 1 ≤ w2.heap.size := by have := hb2.size; simpa using this
      have hB2 := (hB1.trans (hb2.mono (by simp))).drew
      have bk2 := bk.st hb2
      have y0w := bk2.cell 0
      have y4w := bk2.cell 4
      simp at y0w y4w
      obtain ⟨bb, boff, rfl, _, _, hcb⟩ := (hrb2.st hb2) (by omega)
      obtain ⟨D1, d1, D2, d2, z0, z1, z2, z3, z4, q1, q1'⟩ := hcb q hqn
      have q2 := (r2.alloc (.cells #[.int .i64 x.time, .int .i64 x.msg, .int .i64 x.part, .slice A1 x.seen.length c1, .slice A2 x.shown.length c2] 46)).st hb2
      have bb1 : bb < w2.heap.size := World.block_lt_of_cell? w2 _ z0
      have bb2 : w.heap.size < w2.heap.size := by omega
      clear hcb z1 z2 z4 q1' y1 y2 y4 y0 hb2
      go_wp2_with fail
      go_region_held3 (fun w' => w'.cell? ⟨bb, boff + q * 5 + 3, none⟩ = some (.slice D1 b[q].seen.length d1) ∧ w'.cell? ⟨w.heap.size, 4, none⟩ = some (.slice A2 x.shown.length c2)) (first | go_keep | ((try go_split_ands); (try dsimp only); (repeat' apply And.intro) <;> (first | go_keep | ((refine (hc7 _ _ ?_).trans ?_) <;> first | assumption | omega | (simp <;> omega)))))
        (first | (go_at_call 48; ((with_reducible refine (l1Same_v b[q].seen x.shown D1 A2 d1 c2 _ q1.drew q2.drew (by omega) (by omega) _ hs).mono ?_); rintro e w7 ⟨rfl, hb7⟩; (have hc7 := (bcell hb7).1))))
      go_wp2
      go_ret
      exact ⟨by rw [hv.out]; rfl, hB2.trans (hb7.mono (by simp; omega))⟩
    | true =>
      by_cases ht : b[q].time < x.time
      · have hv := Lib.hid (pfK_3 hq hqn hs ht)
        go_enter Tryd.func57, Tryd.ntmps57
        go_wp2_with fail
        (with_reducible refine (lgFind_v b B d x.msg x.part _ hrb2 (by omega) _ hq).mono ?_)
        rintro e w2 ⟨rfl, hb2⟩
        have s2 : w.heap.size + 1 ≤ w2.heap.size := by have := hb2.size; simpa using this
        have hB2 := (hB1.trans (hb2.mono (by simp))).drew
        have bk2 := bk.st hb2
        have y0w := bk2.cell 0
        have y4w := bk2.cell 4
        simp at y0w y4w
        obtain ⟨bb, boff, rfl, _, _, hcb⟩ := (hrb2.st hb2) (by omega)
        obtain ⟨D1, d1, D2, d2, z0, z1, z2, z3, z4, q1, q1'⟩ := hcb q hqn
        have q2 := (r2.alloc (.cells #[.int .i64 x.time, .int .i64 x.msg, .int .i64 x.part, .slice A1 x.seen.length c1, .slice A2 x.shown.length c2] 46)).st hb2
        have bb1 : bb < w2.heap.size := World.block_lt_of_cell? w2 _ z0
        have bb2 : w.heap.size < w2.heap.size := by omega
        clear hcb z1 z2 z4 q1' y1 y2 y4 y0 hb2
        go_wp2_with fail
        go_region_held3 (fun w' => w'.cell? ⟨bb, boff + q * 5 + 3, none⟩ = some (.slice D1 b[q].seen.length d1) ∧ w'.cell? ⟨w.heap.size, 4, none⟩ = some (.slice A2 x.shown.length c2)) (first | go_keep | ((try go_split_ands); (try dsimp only); (repeat' apply And.intro) <;> (first | go_keep | ((refine (hc7 _ _ ?_).trans ?_) <;> first | assumption | omega | (simp <;> omega)))))
          (first | (go_at_call 48; ((with_reducible refine (l1Same_v b[q].seen x.shown D1 A2 d1 c2 _ q1.drew q2.drew (by omega) (by omega) _ hs).mono ?_); rintro e w7 ⟨rfl, hb7⟩; (have hc7 := (bcell hb7).1))))
        have z0' := (hc7 _ _ (by simp; omega)).trans z0
        have y0' := (hc7 _ _ (by simp; omega)).trans y0w
        have hH := Lib.hid hc7
        clear hc7
        go_wp2_with fail
        go_quiet (fail)
        go_wp2
        go_ret
        exact ⟨by rw [hv.out]; rfl, below_drewN (hB2.trans (hb7.mono (by simp; omega))) _⟩
      · have hv := Lib.hid (pfK_0 hq hqn hs ht)
        go_enter Tryd.func57, Tryd.ntmps57
        go_wp2_with fail
        (with_reducible refine (lgFind_v b B d x.msg x.part _ hrb2 (by omega) _ hq).mono ?_)
        rintro e w2 ⟨rfl, hb2⟩
        have s2 : w.heap.size + 1 ≤ w2.heap.size := by have := hb2.size; simpa using this
        have hB2 := (hB1.trans (hb2.mono (by simp))).drew
        have bk2 := bk.st hb2
        have y0w := bk2.cell 0
        have y4w := bk2.cell 4
        simp at y0w y4w
        obtain ⟨bb, boff, rfl, _, _, hcb⟩ := (hrb2.st hb2) (by omega)
        obtain ⟨D1, d1, D2, d2, z0, z1, z2, z3, z4, q1, q1'⟩ := hcb q hqn
        have q2 := (r2.alloc (.cells #[.int .i64 x.time, .int .i64 x.msg, .int .i64 x.part, .slice A1 x.seen.length c1, .slice A2 x.shown.length c2] 46)).st hb2
        have bb1 : bb < w2.heap.size := World.block_lt_of_cell? w2 _ z0
        have bb2 : w.heap.size < w2.heap.size := by omega
        clear hcb z1 z2 z4 q1' y1 y2 y4 y0 hb2
        go_wp2_with fail
        go_region_held3 (fun w' => w'.cell? ⟨bb, boff + q * 5 + 3, none⟩ = some (.slice D1 b[q].seen.length d1) ∧ w'.cell? ⟨w.heap.size, 4, none⟩ = some (.slice A2 x.shown.length c2)) (first | go_keep | ((try go_split_ands); (try dsimp only); (repeat' apply And.intro) <;> (first | go_keep | ((refine (hc7 _ _ ?_).trans ?_) <;> first | assumption | omega | (simp <;> omega)))))
          (first | (go_at_call 48; ((with_reducible refine (l1Same_v b[q].seen x.shown D1 A2 d1 c2 _ q1.drew q2.drew (by omega) (by omega) _ hs).mono ?_); rintro e w7 ⟨rfl, hb7⟩; (have hc7 := (bcell hb7).1))))
        have z0' := (hc7 _ _ (by simp; omega)).trans z0
        have y0' := (hc7 _ _ (by simp; omega)).trans y0w
        have hH := Lib.hid hc7
        clear hc7
        go_wp2_with fail
        go_quiet (fail)
        go_wp2
        go_ret
        exact ⟨by rw [hv.out]; rfl, below_drewN (hB2.trans (hb7.mono (by simp; omega))) _⟩
  · have hq := findI_neg hn
    have hv := Lib.hid (pfK_1 hn)
    clear hn
    go_enter Tryd.func57, Tryd.ntmps57
    go_wp2_with (go_at_call 45; (with_reducible refine (lgFind_v b B d x.msg x.part _ hrb2 (by omega) _ hq).mono ?_); rintro e w2 ⟨rfl, hb2⟩)
    go_ret
    exact ⟨by rw [hv.out]; rfl, hB1.trans (hb2.mono (by simp))⟩

set_option maxHeartbeats 4000000 in
theorem auPair_any (a : List Ent) (A : Option Addr) (c : Nat) (b : List Ent) (B : Option Addr) (d : Nat) {l h l' h' : Nat} (w : World) (hr0 : RdE w l h A a) (hrb0 : RdE w l' h' B b) (hl : eszL a ≤ 1048576) (hlb : eszL b ≤ 1048576) :
    Calls Tryd.prog 37 #[.slice A a.length c, .slice B b.length d] w fun e w' => ∃ A c, e = .returned (.slice A (pfL a b).length c) ∧ OwnI w' w.heap.size w'.heap.size (.slice A (pfL a b).length c) (pfL a b) ∧ FullI w' w.heap.size (.slice A (pfL a b).length c) (pfL a b).length ∧ Below w.heap.size w w' := by
  have hr := hr0.std
  have hrb := hrb0.std
  clear hr0 hrb0
  have hel := esz_len a
  have helb := esz_len b
  go_enter Tryd.func37, Tryd.ntmps37
  go_wp2
  go_loopw [5, 7, 8, 13] (fun v _ _ i wr => ∃ k : Nat, k ≤ a.length ∧ i = .int .i64 k ∧ OwnI wr w.heap.size wr.heap.size v (pfA a b k) ∧ FullI wr w.heap.size v (pfA a b k).length ∧ Below w.heap.size w wr) (fun _ _ _ i _ => a.length - (intOf i).toNat)
  case atStart => exact ⟨0, Nat.zero_le _, rfl, by rw [pfA_zero]; exact OwnI.nil, by rw [pfA_zero]; exact FullI.nil, Below.refl _ _⟩
  case round =>
    obtain ⟨k, hk, rfl, hown, hful, hbr⟩ := hrel
    have hszr := hbr.size
    by_cases hlt : k < a.length
    · obtain ⟨b0, off, rfl, _, _, hc⟩ := (hr.st hbr) (by omega)
      obtain ⟨A1, c1, A2, c2, x0, x1, x2, x3, x4, r1, r2⟩ := hc k hlt
      have hrb2 := (hrb.st hbr).alloc (.cells #[.int .i64 a[k].time, .int .i64 a[k].msg, .int .i64 a[k].part, .slice A1 a[k].seen.length c1, .slice A2 a[k].shown.length c2] 46)
      have hcl2 := pfA_len a b k
      have hata := esz_at a k hlt
      have bk := Bk.new wr 46 #[.int .i64 a[k].time, .int .i64 a[k].msg, .int .i64 a[k].part, .slice A1 a[k].seen.length c1, .slice A2 a[k].shown.length c2]
      have ho1 := hown.alloc (.cells #[.int .i64 a[k].time, .int .i64 a[k].msg, .int .i64 a[k].part, .slice A1 a[k].seen.length c1, .slice A2 a[k].shown.length c2] 46)
      have hf1 := hful.alloc (.cells #[.int .i64 a[k].time, .int .i64 a[k].msg, .int .i64 a[k].part, .slice A1 a[k].seen.length c1, .slice A2 a[k].shown.length c2] 46)
      have hB1 := hbr.alloc hszr (.cells #[.int .i64 a[k].time, .int .i64 a[k].msg, .int .i64 a[k].part, .slice A1 a[k].seen.length c1, .slice A2 a[k].shown.length c2] 46)
      clear hc hown hful hbr
      generalize hK : pfK a[k] b = v0
      by_cases hpos : 0 < v0
      · have hst := Lib.hid (pfA_yes hlt hK hpos)
        go_wp2_with fail
        (with_reducible refine (auKind_v a[k] A1 c1 A2 c2 b B d _ (r2.alloc _) hrb2 (by omega) hlb _ hK).mono ?_)
        rintro e w2 ⟨rfl, hb2⟩
        have bkW := bk.st hb2
        have hoW := ho1.st hb2
        have hfW := hf1.st hb2
        have s2 : wr.heap.size + 1 ≤ w2.heap.size := by have := hb2.size; simpa using this
        have hBW := hB1.trans (hb2.mono (by simp; omega))
        clear hb2
        have y1 := bkW.cell 1
        have y2 := bkW.cell 2
        simp at y1 y2
        go_wp2_with (at_builtin; refine wp_append_made rfl (.tmp 22) (.tmp 29) _ _ rfl rfl rfl (by first | rfl | simp | omega) hoW (ys := [a[k].msg, a[k].part, v0]) rfl (by omega) (by first | simp | decide) (by omega) ?_; intro v3 w3 hown3 hb3 hfull3)
        have hB3 := Lib.hid (hBW.trans (hb3.mono (Nat.le_refl _)))
        have ho3 := Lib.hid hown3
        have hf3 := Lib.hid (hfull3 hfW)
        clear hown3 hb3 hBW hoW hfW hfull3
        go_roundw
        case rel => exact ⟨k + 1, by omega, by go_num, by rw [hst.out]; exact ho3.out, by rw [hst.out, List.length_append]; exact hf3.out, hB3.out⟩
        case measure => simp [intOf]; omega
      · have hz : pfK a[k] b = 0 := by rw [hK]; have := pfK_bd a[k] b; omega
        have hst := Lib.hid (pfA_no hlt hz)
        rw [hz] at hK
        subst hK
        clear hpos
        go_wp2_with fail
        (with_reducible refine (auKind_v a[k] A1 c1 A2 c2 b B d _ (r2.alloc _) hrb2 (by omega) hlb _ hz).mono ?_)
        rintro e w2 ⟨rfl, hb2⟩
        have bkW := bk.st hb2
        have hoW := ho1.st hb2
        have hfW := hf1.st hb2
        have s2 : wr.heap.size + 1 ≤ w2.heap.size := by have := hb2.size; simpa using this
        have hBW := hB1.trans (hb2.mono (by simp; omega))
        clear hb2
        have hoH := Lib.hid hoW
        have hfH := Lib.hid hfW
        have hBH := Lib.hid hBW
        clear hoW hfW hBW
        go_wp2
        go_roundw
        case rel => exact ⟨k + 1, by omega, by go_num, by rw [hst.out]; exact hoH.out.mono (Nat.le_refl _) (by first | omega | (simp <;> omega)), by rw [hst.out]; exact hfH.out, hBH.out⟩
        case measure => simp [intOf]; omega
    · obtain rfl : k = a.length := by omega
      have hoS : Hid (OwnI wr w.heap.size wr.heap.size _ (pfAB a b 0)) := Lib.hid (by rw [pfAB_zero]; exact hown)
      have hfS : Hid (FullI wr w.heap.size _ (pfAB a b 0).length) := Lib.hid (by rw [pfAB_zero]; exact hful)
      have hbS := Lib.hid hbr
      clear hown hful hbr
      go_wp2
      go_loopw [5, 10, 34] (fun v _ i wr => ∃ k : Nat, k ≤ b.length ∧ i = .int .i64 k ∧ OwnI wr w.heap.size wr.heap.size v (pfAB a b k) ∧ FullI wr w.heap.size v (pfAB a b k).length ∧ Below w.heap.size w wr) (fun _ _ i _ => b.length - (intOf i).toNat)
      case atStart => exact ⟨0, Nat.zero_le _, rfl, hoS.out, hfS.out, hbS.out⟩
      case round =>
        clear hoS hfS hbS hszr
        obtain ⟨k, hk, rfl, hown, hful, hbr⟩ := hrel
        have hszr := hbr.size
        by_cases hlt : k < b.length
        · obtain ⟨b0, off, rfl, _, _, hc⟩ := (hrb.st hbr) (by omega)
          obtain ⟨A1, c1, A2, c2, x0, x1, x2, x3, x4, r1, r2⟩ := hc k hlt
          have hra2 := (hr.st hbr).alloc (.cells #[.int .i64 b[k].time, .int .i64 b[k].msg, .int .i64 b[k].part, .slice A1 b[k].seen.length c1, .slice A2 b[k].shown.length c2] 46)
          have hcl2 := pfAB_len a b k
          have bk := Bk.new wr 46 #[.int .i64 b[k].time, .int .i64 b[k].msg, .int .i64 b[k].part, .slice A1 b[k].seen.length c1, .slice A2 b[k].shown.length c2]
          have ho1 := hown.alloc (.cells #[.int .i64 b[k].time, .int .i64 b[k].msg, .int .i64 b[k].part, .slice A1 b[k].seen.length c1, .slice A2 b[k].shown.length c2] 46)
          have hf1 := hful.alloc (.cells #[.int .i64 b[k].time, .int .i64 b[k].msg, .int .i64 b[k].part, .slice A1 b[k].seen.length c1, .slice A2 b[k].shown.length c2] 46)
          have hB1 := hbr.alloc hszr (.cells #[.int .i64 b[k].time, .int .i64 b[k].msg, .int .i64 b[k].part, .slice A1 b[k].seen.length c1, .slice A2 b[k].shown.length c2] 46)
          clear hc hown hful hbr
          by_cases hn : 0 ≤ findI a b[k].msg b[k].part
          · obtain ⟨q, hq, hqn⟩ := findI_cast2 hn
            have hst := Lib.hid (pfAB_no hlt hn)
            clear hn
            go_wp2_with fail
            (with_reducible refine (lgFind_v a A c b[k].msg b[k].part _ hra2 (by omega) _ hq).mono ?_)
            rintro e w2 ⟨rfl, hb2⟩
            have s2 : wr.heap.size + 1 ≤ w2.heap.size := by have := hb2.size; simpa using this
            have hoH := Lib.hid (ho1.st hb2)
            have hfH := Lib.hid (hf1.st hb2)
            have hBH := Lib.hid (hB1.trans (hb2.mono (by simp; omega)))
            clear ho1 hf1 hB1 hb2
            go_wp2
            go_roundw
            case rel => exact ⟨k + 1, by omega, by go_num, by rw [hst.out]; exact hoH.out.mono (Nat.le_refl _) (by first | omega | (simp <;> omega)), by rw [hst.out]; exact hfH.out, hBH.out⟩
            case measure => simp [intOf]; omega
          · have hq := findI_neg hn
            have hst := Lib.hid (pfAB_yes hlt hn)
            clear hn
            go_wp2_with fail
            (with_reducible refine (lgFind_v a A c b[k].msg b[k].part _ hra2 (by omega) _ hq).mono ?_)
            rintro e w2 ⟨rfl, hb2⟩
            have s2 : wr.heap.size + 1 ≤ w2.heap.size := by have := hb2.size; simpa using this
            have bkW := bk.st hb2
            have hoW := ho1.st hb2
            have hfW := hf1.st hb2
            have hBW := hB1.trans (hb2.mono (by simp; omega))
            clear ho1 hf1 hB1 hb2 bk
            have y1 := bkW.cell 1
            have y2 := bkW.cell 2
            simp at y1 y2
            go_wp2_with (at_builtin; refine wp_append_made rfl (.tmp 45) (.tmp 51) _ _ rfl rfl rfl (by first | rfl | simp | omega) hoW (ys := [b[k].msg, b[k].part, 4]) rfl (by omega) (by first | simp | decide) (by omega) ?_; intro v3 w3 hown3 hb3 hfull3)
            have hB3 := Lib.hid (hBW.trans (hb3.mono (Nat.le_refl _)))
            have ho3 := Lib.hid hown3
            have hf3 := Lib.hid (hfull3 hfW)
            clear hown3 hb3 hBW hoW hfW hfull3
            go_roundw
            case rel => exact ⟨k + 1, by omega, by go_num, by rw [hst.out]; exact ho3.out, by rw [hst.out, List.length_append]; exact hf3.out, hB3.out⟩
            case measure => simp [intOf]; omega
        · obtain rfl : k = b.length := by omega
          obtain ⟨A, c, rfl, -, -⟩ := hown.rd
          have ho := Lib.hid (show OwnI wr w.heap.size wr.heap.size (.slice A (pfL a b).length c) (pfL a b) from hown)
          have hf := Lib.hid (show FullI wr w.heap.size (.slice A (pfL a b).length c) (pfL a b).length from hful)
          clear hown hful
          go_wp2
          go_ret
          exact ⟨_, _, rfl, ho.out, hf.out, hbr⟩

set_option maxHeartbeats 4000000 in
theorem pairFaults_any (a : List Ent) (A : Option Addr) (c : Nat) (b : List Ent) (B : Option Addr) (d : Nat) {l h l' h' : Nat} (w : World) (hr0 : RdE w l h A a) (hrb0 : RdE w l' h' B b) (hl : eszL a ≤ 1048576) (hlb : eszL b ≤ 1048576) :
    Calls Tryd.prog 36 #[.slice A a.length c, .slice B b.length d] w fun e w' => ∃ A c, e = .returned (.slice A (pfL a b).length c) ∧ OwnI w' w.heap.size w'.heap.size (.slice A (pfL a b).length c) (pfL a b) ∧ FullI w' w.heap.size (.slice A (pfL a b).length c) (pfL a b).length ∧ Below w.heap.size w w' := by
  have hr := hr0.std
  have hrb := hrb0.std
  clear hr0 hrb0
  have hel := esz_len a
  have helb := esz_len b
  go_enter Tryd.func36, Tryd.ntmps36
  go_wp2
  go_loopw [5, 7, 8, 9, 14, 24, 27, 37] (fun v _ _ _ i _ _ _ wr => ∃ k : Nat, k ≤ a.length ∧ i = .int .i64 k ∧ OwnI wr w.heap.size wr.heap.size v (pfA a b k) ∧ FullI wr w.heap.size v (pfA a b k).length ∧ Below w.heap.size w wr) (fun _ _ _ _ i _ _ _ _ => a.length - (intOf i).toNat)
  case atStart => exact ⟨0, Nat.zero_le _, rfl, by rw [pfA_zero]; exact OwnI.nil, by rw [pfA_zero]; exact FullI.nil, Below.refl _ _⟩
  case round =>
    obtain ⟨k, hk, rfl, hown, hful, hbr⟩ := hrel
    have hszr := hbr.size
    by_cases hlt : k < a.length
    · obtain ⟨b0, off, rfl, _, _, hc⟩ := (hr.st hbr) (by omega)
      obtain ⟨A1, c1, A2, c2, x0, x1, x2, x3, x4, r1, r2⟩ := hc k hlt
      have hrb2 := (hrb.st hbr).alloc (.cells #[.int .i64 a[k].time, .int .i64 a[k].msg, .int .i64 a[k].part, .slice A1 a[k].seen.length c1, .slice A2 a[k].shown.length c2] 46)
      have hcl2 := pfA_len a b k
      have hata := esz_at a k hlt
      have bk := Bk.new wr 46 #[.int .i64 a[k].time, .int .i64 a[k].msg, .int .i64 a[k].part, .slice A1 a[k].seen.length c1, .slice A2 a[k].shown.length c2]
      have ho1 := hown.alloc (.cells #[.int .i64 a[k].time, .int .i64 a[k].msg, .int .i64 a[k].part, .slice A1 a[k].seen.length c1, .slice A2 a[k].shown.length c2] 46)
      have hf1 := hful.alloc (.cells #[.int .i64 a[k].time, .int .i64 a[k].msg, .int .i64 a[k].part, .slice A1 a[k].seen.length c1, .slice A2 a[k].shown.length c2] 46)
      have hB1 := hbr.alloc hszr (.cells #[.int .i64 a[k].time, .int .i64 a[k].msg, .int .i64 a[k].part, .slice A1 a[k].seen.length c1, .slice A2 a[k].shown.length c2] 46)
      clear hc hown hful hbr
      by_cases hn : 0 ≤ findI b a[k].msg a[k].part
      · obtain ⟨q, hq, hqn⟩ := findI_cast2 hn
        have hat := esz_at b q hqn
        clear hn
        cases hs : eqL b[q].seen a[k].shown with
        | false =>
          have hst := Lib.hid (pfA_yes hlt (pfK_2 hq hqn hs) (by omega))
          go_wp2_with fail
          (with_reducible refine (entryIndex_n b B b.length d a[k].msg a[k].part _ hrb2 rfl (by omega) _ hq).mono ?_)
          rintro e w2 ⟨rfl, hb2⟩
          have bk2 := bk.st hb2
          have ho2 := ho1.st hb2
          have hf2 := hf1.st hb2
          have s2 : wr.heap.size + 1 ≤ w2.heap.size := by have := hb2.size; simpa using this
          have hB2 := hB1.trans (hb2.mono (by simp; omega))
          have y0w := bk2.cell 0
          have y4w := bk2.cell 4
          simp at y0w y4w
          obtain ⟨bb, boff, rfl, _, _, hcb⟩ := (hrb2.st hb2) (by omega)
          obtain ⟨D1, d1, D2, d2, z0, z1, z2, z3, z4, q1, q1'⟩ := hcb q hqn
          have q2 := (r2.alloc (.cells #[.int .i64 a[k].time, .int .i64 a[k].msg, .int .i64 a[k].part, .slice A1 a[k].seen.length c1, .slice A2 a[k].shown.length c2] 46)).st hb2
          have bb1 : bb < w2.heap.size := World.block_lt_of_cell? w2 _ z0
          have bb2 : wr.heap.size < w2.heap.size := by omega
          clear hcb z1 z2 z4 q1' hb2
          go_wp2_with fail
          go_region_held3 (fun w' => w'.cell? ⟨bb, boff + q * 5 + 3, none⟩ = some (.slice D1 b[q].seen.length d1) ∧ w'.cell? ⟨wr.heap.size, 4, none⟩ = some (.slice A2 a[k].shown.length c2)) (first | go_keep | ((try go_split_ands); (try dsimp only); (repeat' apply And.intro) <;> (first | go_keep | ((refine (hc7 _ _ ?_).trans ?_) <;> first | assumption | omega | (simp <;> omega)))))
            (first | (go_at_call 47; ((with_reducible refine (slEqual_v b[q].seen a[k].shown D1 A2 d1 c2 _ q1.drew q2.drew (by omega) (by omega) _ hs).mono ?_); rintro e w7 ⟨rfl, hb7⟩; (have hc7 := (bcell hb7).1))))
          have bk7 := (bk2.drew).st hb7
          have ho7 := (ho2.drew).st hb7
          have hf7 := hf2.st (Below.drewR hb7)
          have s7 : w2.heap.size ≤ w7.heap.size := by have := hb7.size; simpa using this
          have hB7 := (hB2.drew).trans (hb7.mono (by simp; omega))
          have bkW := bk7
          have hoW := ho7
          have hfW := hf7
          have hBW := hB7
          clear bk7 ho7 hf7 hB7 bk2 ho2 hf2 hB2 hc7 hb7 z0 z3 y0w y4w
          have y1 := bkW.cell 1
          have y2 := bkW.cell 2
          simp at y1 y2
          go_wp2_with (at_builtin; refine wp_append_made rfl (.tmp 48) (.tmp 55) _ _ rfl rfl rfl (by first | rfl | simp | omega) hoW (ys := [a[k].msg, a[k].part, 2]) rfl (by omega) (by first | simp | decide) (by omega) ?_; intro v3 w3 hown3 hb3 hfull3)
          have hB3 := Lib.hid (hBW.trans (hb3.mono (Nat.le_refl _)))
          have ho3 := Lib.hid hown3
          have hf3 := Lib.hid (hfull3 hfW)
          clear hown3 hb3 hBW hoW hfW hfull3
          go_roundw
          case rel => exact ⟨k + 1, by omega, by go_num, by rw [hst.out]; exact ho3.out, by rw [hst.out, List.length_append]; exact hf3.out, hB3.out⟩
          case measure => simp [intOf]; omega
        | true =>
          by_cases ht : b[q].time < a[k].time
          · have hst := Lib.hid (pfA_yes hlt (pfK_3 hq hqn hs ht) (by omega))
            go_wp2_with fail
            (with_reducible refine (entryIndex_n b B b.length d a[k].msg a[k].part _ hrb2 rfl (by omega) _ hq).mono ?_)
            rintro e w2 ⟨rfl, hb2⟩
            have bk2 := bk.st hb2
            have ho2 := ho1.st hb2
            have hf2 := hf1.st hb2
            have s2 : wr.heap.size + 1 ≤ w2.heap.size := by have := hb2.size; simpa using this
            have hB2 := hB1.trans (hb2.mono (by simp; omega))
            have y0w := bk2.cell 0
            have y4w := bk2.cell 4
            simp at y0w y4w
            obtain ⟨bb, boff, rfl, _, _, hcb⟩ := (hrb2.st hb2) (by omega)
            obtain ⟨D1, d1, D2, d2, z0, z1, z2, z3, z4, q1, q1'⟩ := hcb q hqn
            have q2 := (r2.alloc (.cells #[.int .i64 a[k].time, .int .i64 a[k].msg, .int .i64 a[k].part, .slice A1 a[k].seen.length c1, .slice A2 a[k].shown.length c2] 46)).st hb2
            have bb1 : bb < w2.heap.size := World.block_lt_of_cell? w2 _ z0
            have bb2 : wr.heap.size < w2.heap.size := by omega
            clear hcb z1 z2 z4 q1' hb2
            go_wp2_with fail
            go_region_held3 (fun w' => w'.cell? ⟨bb, boff + q * 5 + 3, none⟩ = some (.slice D1 b[q].seen.length d1) ∧ w'.cell? ⟨wr.heap.size, 4, none⟩ = some (.slice A2 a[k].shown.length c2)) (first | go_keep | ((try go_split_ands); (try dsimp only); (repeat' apply And.intro) <;> (first | go_keep | ((refine (hc7 _ _ ?_).trans ?_) <;> first | assumption | omega | (simp <;> omega)))))
              (first | (go_at_call 47; ((with_reducible refine (slEqual_v b[q].seen a[k].shown D1 A2 d1 c2 _ q1.drew q2.drew (by omega) (by omega) _ hs).mono ?_); rintro e w7 ⟨rfl, hb7⟩; (have hc7 := (bcell hb7).1))))
            have bk7 := (bk2.drew).st hb7
            have ho7 := (ho2.drew).st hb7
            have hf7 := hf2.st (Below.drewR hb7)
            have s7 : w2.heap.size ≤ w7.heap.size := by have := hb7.size; simpa using this
            have hB7 := (hB2.drew).trans (hb7.mono (by simp; omega))
            have z0' := (hc7 _ _ (by simp; omega)).trans z0
            have y0' := (hc7 _ _ (by simp; omega)).trans y0w
            clear hc7 hb7 z0 y0w y4w z3
            go_wp2_with fail
            go_quiet (fail)
            generalize hwq : w7.drewN nq = wq
            have bkW := bk7.drewN nq
            have hoW := ho7.drewN nq
            have hfW : FullI (w7.drewN nq) _ _ _ := hf7
            have hBW := below_drewN hB7 nq
            rw [hwq] at bkW hoW hfW hBW
            have sq : w7.heap.size ≤ wq.heap.size := by rw [← hwq]; exact Nat.le_refl _
            clear hwq z0' y0'
            clear bk7 ho7 hf7 hB7 bk2 ho2 hf2 hB2
            have y1 := bkW.cell 1
            have y2 := bkW.cell 2
            simp at y1 y2
            go_wp2_with (at_builtin; refine wp_append_made rfl (.tmp 48) (.tmp 55) _ _ rfl rfl rfl (by first | rfl | simp | omega) hoW (ys := [a[k].msg, a[k].part, 3]) rfl (by omega) (by first | simp | decide) (by omega) ?_; intro v3 w3 hown3 hb3 hfull3)
            have hB3 := Lib.hid (hBW.trans (hb3.mono (Nat.le_refl _)))
            have ho3 := Lib.hid hown3
            have hf3 := Lib.hid (hfull3 hfW)
            clear hown3 hb3 hBW hoW hfW hfull3
            go_roundw
            case rel => exact ⟨k + 1, by omega, by go_num, by rw [hst.out]; exact ho3.out, by rw [hst.out, List.length_append]; exact hf3.out, hB3.out⟩
            case measure => simp [intOf]; omega
          · have hst := Lib.hid (pfA_no hlt (pfK_0 hq hqn hs ht))
            go_wp2_with fail
            (with_reducible refine (entryIndex_n b B b.length d a[k].msg a[k].part _ hrb2 rfl (by omega) _ hq).mono ?_)
            rintro e w2 ⟨rfl, hb2⟩
            have bk2 := bk.st hb2
            have ho2 := ho1.st hb2
            have hf2 := hf1.st hb2
            have s2 : wr.heap.size + 1 ≤ w2.heap.size := by have := hb2.size; simpa using this
            have hB2 := hB1.trans (hb2.mono (by simp; omega))
            have y0w := bk2.cell 0
            have y4w := bk2.cell 4
            simp at y0w y4w
            obtain ⟨bb, boff, rfl, _, _, hcb⟩ := (hrb2.st hb2) (by omega)
            obtain ⟨D1, d1, D2, d2, z0, z1, z2, z3, z4, q1, q1'⟩ := hcb q hqn
            have q2 := (r2.alloc (.cells #[.int .i64 a[k].time, .int .i64 a[k].msg, .int .i64 a[k].part, .slice A1 a[k].seen.length c1, .slice A2 a[k].shown.length c2] 46)).st hb2
            have bb1 : bb < w2.heap.size := World.block_lt_of_cell? w2 _ z0
            have bb2 : wr.heap.size < w2.heap.size := by omega
            clear hcb z1 z2 z4 q1' hb2
            go_wp2_with fail
            go_region_held3 (fun w' => w'.cell? ⟨bb, boff + q * 5 + 3, none⟩ = some (.slice D1 b[q].seen.length d1) ∧ w'.cell? ⟨wr.heap.size, 4, none⟩ = some (.slice A2 a[k].shown.length c2)) (first | go_keep | ((try go_split_ands); (try dsimp only); (repeat' apply And.intro) <;> (first | go_keep | ((refine (hc7 _ _ ?_).trans ?_) <;> first | assumption | omega | (simp <;> omega)))))
              (first | (go_at_call 47; ((with_reducible refine (slEqual_v b[q].seen a[k].shown D1 A2 d1 c2 _ q1.drew q2.drew (by omega) (by omega) _ hs).mono ?_); rintro e w7 ⟨rfl, hb7⟩; (have hc7 := (bcell hb7).1))))
            have bk7 := (bk2.drew).st hb7
            have ho7 := (ho2.drew).st hb7
            have hf7 := hf2.st (Below.drewR hb7)
            have s7 : w2.heap.size ≤ w7.heap.size := by have := hb7.size; simpa using this
            have hB7 := (hB2.drew).trans (hb7.mono (by simp; omega))
            have z0' := (hc7 _ _ (by simp; omega)).trans z0
            have y0' := (hc7 _ _ (by simp; omega)).trans y0w
            clear hc7 hb7 z0 y0w y4w z3
            go_wp2_with fail
            go_quiet (fail)
            have hoH := Lib.hid ho7
            have hfH := Lib.hid hf7
            have hBH := Lib.hid (below_drewN hB7 nq)
            clear ho7 hf7 hB7 bk7 bk2 ho2 hf2 hB2
            go_wp2
            go_roundw
            case rel => exact ⟨k + 1, by omega, by go_num, by rw [hst.out]; exact hoH.out.mono (Nat.le_refl _) (by first | omega | (simp <;> omega)), by rw [hst.out]; exact hfH.out, hBH.out⟩
            case measure => simp [intOf]; omega
      · have hq := findI_neg hn
        have hst := Lib.hid (pfA_yes hlt (pfK_1 hn) (by omega))
        clear hn
        go_wp2_with fail
        (with_reducible refine (entryIndex_n b B b.length d a[k].msg a[k].part _ hrb2 rfl (by omega) _ hq).mono ?_)
        rintro e w2 ⟨rfl, hb2⟩
        have bk2 := bk.st hb2
        have ho2 := ho1.st hb2
        have hf2 := hf1.st hb2
        have s2 : wr.heap.size + 1 ≤ w2.heap.size := by have := hb2.size; simpa using this
        have hB2 := hB1.trans (hb2.mono (by simp; omega))
        have bkW := bk2
        have hoW := ho2
        have hfW := hf2
        have hBW := hB2
        clear bk2 ho2 hf2 hB2 hb2
        have y1 := bkW.cell 1
        have y2 := bkW.cell 2
        simp at y1 y2
        go_wp2_with (at_builtin; refine wp_append_made rfl (.tmp 48) (.tmp 55) _ _ rfl rfl rfl (by first | rfl | simp | omega) hoW (ys := [a[k].msg, a[k].part, 1]) rfl (by omega) (by first | simp | decide) (by omega) ?_; intro v3 w3 hown3 hb3 hfull3)
        have hB3 := Lib.hid (hBW.trans (hb3.mono (Nat.le_refl _)))
        have ho3 := Lib.hid hown3
        have hf3 := Lib.hid (hfull3 hfW)
        clear hown3 hb3 hBW hoW hfW hfull3
        go_roundw
        case rel => exact ⟨k + 1, by omega, by go_num, by rw [hst.out]; exact ho3.out, by rw [hst.out, List.length_append]; exact hf3.out, hB3.out⟩
        case measure => simp [intOf]; omega
    · obtain rfl : k = a.length := by omega
      have hoS : Hid (OwnI wr w.heap.size wr.heap.size _ (pfAB a b 0)) := Lib.hid (by rw [pfAB_zero]; exact hown)
      have hfS : Hid (FullI wr w.heap.size _ (pfAB a b 0).length) := Lib.hid (by rw [pfAB_zero]; exact hful)
      have hbS := Lib.hid hbr
      clear hown hful hbr
      go_wp2
      go_loopw [5, 11, 60] (fun v _ i wr => ∃ k : Nat, k ≤ b.length ∧ i = .int .i64 k ∧ OwnI wr w.heap.size wr.heap.size v (pfAB a b k) ∧ FullI wr w.heap.size v (pfAB a b k).length ∧ Below w.heap.size w wr) (fun _ _ i _ => b.length - (intOf i).toNat)
      case atStart => exact ⟨0, Nat.zero_le _, rfl, hoS.out, hfS.out, hbS.out⟩
      case round =>
        clear hoS hfS hbS hszr
        obtain ⟨k, hk, rfl, hown, hful, hbr⟩ := hrel
        have hszr := hbr.size
        by_cases hlt : k < b.length
        · obtain ⟨b0, off, rfl, _, _, hc⟩ := (hrb.st hbr) (by omega)
          obtain ⟨A1, c1, A2, c2, x0, x1, x2, x3, x4, r1, r2⟩ := hc k hlt
          have hra2 := (hr.st hbr).alloc (.cells #[.int .i64 b[k].time, .int .i64 b[k].msg, .int .i64 b[k].part, .slice A1 b[k].seen.length c1, .slice A2 b[k].shown.length c2] 46)
          have hcl2 := pfAB_len a b k
          have bk := Bk.new wr 46 #[.int .i64 b[k].time, .int .i64 b[k].msg, .int .i64 b[k].part, .slice A1 b[k].seen.length c1, .slice A2 b[k].shown.length c2]
          have ho1 := hown.alloc (.cells #[.int .i64 b[k].time, .int .i64 b[k].msg, .int .i64 b[k].part, .slice A1 b[k].seen.length c1, .slice A2 b[k].shown.length c2] 46)
          have hf1 := hful.alloc (.cells #[.int .i64 b[k].time, .int .i64 b[k].msg, .int .i64 b[k].part, .slice A1 b[k].seen.length c1, .slice A2 b[k].shown.length c2] 46)
          have hB1 := hbr.alloc hszr (.cells #[.int .i64 b[k].time, .int .i64 b[k].msg, .int .i64 b[k].part, .slice A1 b[k].seen.length c1, .slice A2 b[k].shown.length c2] 46)
          clear hc hown hful hbr
          by_cases hn : 0 ≤ findI a b[k].msg b[k].part
          · obtain ⟨q, hq, hqn⟩ := findI_cast2 hn
            have hst := Lib.hid (pfAB_no hlt hn)
            clear hn
            go_wp2_with fail
            (with_reducible refine (entryIndex_n a A a.length c b[k].msg b[k].part _ hra2 rfl (by omega) _ hq).mono ?_)
            rintro e w2 ⟨rfl, hb2⟩
            have s2 : wr.heap.size + 1 ≤ w2.heap.size := by have := hb2.size; simpa using this
            have hoH := Lib.hid (ho1.st hb2)
            have hfH := Lib.hid (hf1.st hb2)
            have hBH := Lib.hid (hB1.trans (hb2.mono (by simp; omega)))
            clear ho1 hf1 hB1 hb2
            go_wp2
            go_roundw
            case rel => exact ⟨k + 1, by omega, by go_num, by rw [hst.out]; exact hoH.out.mono (Nat.le_refl _) (by first | omega | (simp <;> omega)), by rw [hst.out]; exact hfH.out, hBH.out⟩
            case measure => simp [intOf]; omega
          · have hq := findI_neg hn
            have hst := Lib.hid (pfAB_yes hlt hn)
            clear hn
            go_wp2_with fail
            (with_reducible refine (entryIndex_n a A a.length c b[k].msg b[k].part _ hra2 rfl (by omega) _ hq).mono ?_)
            rintro e w2 ⟨rfl, hb2⟩
            have s2 : wr.heap.size + 1 ≤ w2.heap.size := by have := hb2.size; simpa using this
            have bkW := bk.st hb2
            have hoW := ho1.st hb2
            have hfW := hf1.st hb2
            have hBW := hB1.trans (hb2.mono (by simp; omega))
            clear ho1 hf1 hB1 hb2 bk
            have y1 := bkW.cell 1
            have y2 := bkW.cell 2
            simp at y1 y2
            go_wp2_with (at_builtin; refine wp_append_made rfl (.tmp 71) (.tmp 77) _ _ rfl rfl rfl (by first | rfl | simp | omega) hoW (ys := [b[k].msg, b[k].part, 4]) rfl (by omega) (by first | simp | decide) (by omega) ?_; intro v3 w3 hown3 hb3 hfull3)
            have hB3 := Lib.hid (hBW.trans (hb3.mono (Nat.le_refl _)))
            have ho3 := Lib.hid hown3
            have hf3 := Lib.hid (hfull3 hfW)
            clear hown3 hb3 hBW hoW hfW hfull3
            go_roundw
            case rel => exact ⟨k + 1, by omega, by go_num, by rw [hst.out]; exact ho3.out, by rw [hst.out, List.length_append]; exact hf3.out, hB3.out⟩
            case measure => simp [intOf]; omega
        · obtain rfl : k = b.length := by omega
          obtain ⟨A, c, rfl, -, -⟩ := hown.rd
          have ho := Lib.hid (show OwnI wr w.heap.size wr.heap.size (.slice A (pfL a b).length c) (pfL a b) from hown)
          have hf := Lib.hid (show FullI wr w.heap.size (.slice A (pfL a b).length c) (pfL a b).length from hful)
          clear hown hful
          go_wp2
          go_ret
          exact ⟨_, _, rfl, ho.out, hf.out, hbr⟩

set_option maxHeartbeats 1000000 in
theorem sPairFaults_any (a : List Ent) (A : Option Addr) (c : Nat) (b : List Ent) (B : Option Addr) (d : Nat) {l h l' h' : Nat} (w : World) (hr0 : RdE w l h A a) (hrb0 : RdE w l' h' B b) (hl : eszL a ≤ 1048576) (hlb : eszL b ≤ 1048576) :
    Calls Tryd.prog 15 #[.slice A a.length c, .slice B b.length d] w fun e w' => ∃ A c, e = .returned (.tuple #[.slice A (ppL a b).length c, .bool (ppB a b)]) ∧ RdI w' 0 w'.heap.size A (ppL a b) ∧ iszL (ppL a b) ≤ 1048576 ∧ Below w.heap.size w w' := by
  have hr := hr0.std
  have hrb := hrb0.std
  clear hr0 hrb0
  have hel := esz_len a
  have helb := esz_len b
  cases q1 : logB a with
  | false =>
    have hq := show ppB a b = false by simp [ppB, q1]
    rw [ppL_no hq, hq]
    clear hq
    go_enter Tryd.func15, Tryd.ntmps15
    go_wp2_with (go_at_call 32; (with_reducible refine (lgGood_v a A c _ hr hl _ q1).mono ?_); rintro e w1 ⟨rfl, hb1⟩)
    go_ret2
    (first | exact ⟨none, 0, rfl, RdI.nil, by rw [isz_nil]; omega, hb1⟩ | exact ⟨none, 0, rfl, RdI.nil, hb1⟩)
  | true =>
    cases q2 : logB b with
    | false =>
      have hq := show ppB a b = false by simp [ppB, q2]
      rw [ppL_no hq, hq]
      clear hq
      go_enter Tryd.func15, Tryd.ntmps15
      go_wp2_with fail
      (with_reducible refine (lgGood_v a A c _ hr hl _ q1).mono ?_)
      rintro e w1 ⟨rfl, hb1⟩
      go_wp2_with (go_at_call 32; (with_reducible refine (lgGood_v b B d _ (hrb.st hb1) hlb _ q2).mono ?_); rintro e w2 ⟨rfl, hb2⟩)
      have hbb := hb1.trans (hb2.mono hb1.size)
      go_ret2
      (first | exact ⟨none, 0, rfl, RdI.nil, by rw [isz_nil]; omega, hbb⟩ | exact ⟨none, 0, rfl, RdI.nil, hbb⟩)
    | true =>
      have hq := show ppB a b = true by simp [ppB, q1, q2]
      rw [ppL_yes hq, hq]
      clear hq
      have hsz := Lib.hid (pfL_sz a b)
      have hn := logB_len' q1
      have hn2 := logB_len' q2
      go_enter Tryd.func15, Tryd.ntmps15
      go_wp2_with fail
      (with_reducible refine (lgGood_v a A c _ hr hl _ q1).mono ?_)
      rintro e w1 ⟨rfl, hb1⟩
      go_wp2_with fail
      (with_reducible refine (lgGood_v b B d _ (hrb.st hb1) hlb _ q2).mono ?_)
      rintro e w2 ⟨rfl, hb2⟩
      have hbb := hb1.trans (hb2.mono hb1.size)
      have sz := hbb.size
      go_wp2_with fail
      (with_reducible refine (auPair_any a A c b B d _ (hr.st hbb) (hrb.st hbb) hl hlb).mono ?_)
      rintro e w3 ⟨A3, c3, rfl, ho3, hf3, hb3⟩
      have hB := hbb.trans (hb3.mono sz)
      clear hb3 hf3
      go_wp2
      go_ret2
      exact ⟨_, _, rfl, ho3.rd'.std, by have := hsz.out; omega, hB⟩

set_option maxHeartbeats 1000000 in
theorem iPairFaults_any (a : List Ent) (A : Option Addr) (c : Nat) (b : List Ent) (B : Option Addr) (d : Nat) {l h l' h' : Nat} (w : World) (hr0 : RdE w l h A a) (hrb0 : RdE w l' h' B b) (hl : eszL a ≤ 1048576) (hlb : eszL b ≤ 1048576) (hca : a.length ≤ c) (hcb : b.length ≤ d) :
    Calls Tryd.prog 14 #[.slice A a.length c, .slice B b.length d] w fun e w' => ∃ A c, e = .returned (.tuple #[.slice A (ppL a b).length c, .bool (ppB a b)]) ∧ OwnI w' w.heap.size w'.heap.size (.slice A (ppL a b).length c) (ppL a b) ∧ iszL (ppL a b) ≤ 1048576 ∧ Below w.heap.size w w' := by
  have hr := hr0.std
  have hrb := hrb0.std
  clear hr0 hrb0
  have hel := esz_len a
  have helb := esz_len b
  cases q1 : logB a with
  | false =>
    have hq := show ppB a b = false by simp [ppB, q1]
    rw [ppL_no hq, hq]
    clear hq
    go_enter Tryd.func14, Tryd.ntmps14
    go_wp2_with (go_at_call 35; (with_reducible refine (iIsLog_v a A c _ hr hl hca _ q1).mono ?_); rintro e w1 ⟨rfl, hb1⟩)
    go_ret2
    (first | exact ⟨none, 0, rfl, OwnI.nil, by rw [isz_nil]; omega, hb1⟩ | exact ⟨none, 0, rfl, OwnI.nil, hb1⟩)
  | true =>
    cases q2 : logB b with
    | false =>
      have hq := show ppB a b = false by simp [ppB, q2]
      rw [ppL_no hq, hq]
      clear hq
      go_enter Tryd.func14, Tryd.ntmps14
      go_wp2_with fail
      (with_reducible refine (iIsLog_v a A c _ hr hl hca _ q1).mono ?_)
      rintro e w1 ⟨rfl, hb1⟩
      go_wp2_with (go_at_call 35; (with_reducible refine (iIsLog_v b B d _ (hrb.st hb1) hlb hcb _ q2).mono ?_); rintro e w2 ⟨rfl, hb2⟩)
      have hbb := hb1.trans (hb2.mono hb1.size)
      go_ret2
      (first | exact ⟨none, 0, rfl, OwnI.nil, by rw [isz_nil]; omega, hbb⟩ | exact ⟨none, 0, rfl, OwnI.nil, hbb⟩)
    | true =>
      have hq := show ppB a b = true by simp [ppB, q1, q2]
      rw [ppL_yes hq, hq]
      clear hq
      have hsz := Lib.hid (pfL_sz a b)
      have hn := logB_len' q1
      have hn2 := logB_len' q2
      go_enter Tryd.func14, Tryd.ntmps14
      go_wp2_with fail
      (with_reducible refine (iIsLog_v a A c _ hr hl hca _ q1).mono ?_)
      rintro e w1 ⟨rfl, hb1⟩
      go_wp2_with fail
      (with_reducible refine (iIsLog_v b B d _ (hrb.st hb1) hlb hcb _ q2).mono ?_)
      rintro e w2 ⟨rfl, hb2⟩
      have hbb := hb1.trans (hb2.mono hb1.size)
      have sz := hbb.size
      go_wp2_with fail
      (with_reducible refine (pairFaults_any a A c b B d _ (hr.st hbb) (hrb.st hbb) hl hlb).mono ?_)
      rintro e w3 ⟨A3, c3, rfl, ho3, hf3, hb3⟩
      have hB := hbb.trans (hb3.mono sz)
      clear hb3 hf3
      go_wp2
      go_ret2
      exact ⟨_, _, rfl, ho3.mono (by omega) (Nat.le_refl _), by have := hsz.out; omega, hB⟩
end Go.Proofs.YtjhbffndiaggmaaDoor
