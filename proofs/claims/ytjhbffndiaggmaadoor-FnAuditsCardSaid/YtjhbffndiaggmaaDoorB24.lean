/-
  Contracts and plain laws that the walk uses, several texts in one. The conditions are named ahead of each.
-/
import Derived.Test.YtjhbffndiaggmaaDoorZCurPo
import Derived.Test.YtjhbffndiaggmaaDoorB15
import Derived.Deep.QuietTactic
import Derived.BigQuiet

/-
  Contracts of the draws of a line's logs. The conditions are bounds on lengths.
-/
namespace Go.Proofs.YtjhbffndiaggmaaDoor
open Go.RowKit Go.ChangeShapes Go.WideShapes
set_option linter.unusedVariables false
set_option linter.unusedSimpArgs false

set_option maxRecDepth 100000 in
set_option maxHeartbeats 8000000 in
theorem lineLogs_any (g N : Nat) (w : World) (hc : Cur w g N) (hN : N ≤ 4611686018427000000) :
    Calls Tryd.prog 46 #[.pointer (some ⟨g, 0, none⟩)] w fun e w' => ∃ (es : List (List Ent)) (A : Option Addr) (c : Nat), e = .returned (.slice A es.length c) ∧ (es.length ≤ 10 ∧ esszL es ≤ 8000 ∧ es.length ≤ c) ∧ RdEE w' w.heap.size w'.heap.size A es ∧ Cur w' g (N + 40000) ∧ Fr g (g + 1) w w' := by
  have hgl := hc.lt
  have hF := Fr.refl g (g + 1) w
  go_enter Tryd.func46, Tryd.ntmps46
  go_wp2_with fail
  (with_reducible refine (log_any g N _ hc (by omega)).mono ?_)
  rintro e w1 ⟨l0, A0, c0, rfl, ⟨hl1, hl2, hl3⟩, hr0, hcn, f1⟩
  clear hc
  have hc := hcn
  clear hcn
  have s1 : w.heap.size ≤ w1.heap.size := f1.size
  replace hF := hF.trans f1
  clear f1
  go_upto_region 2 with fail
  have ho0 := OwnLL.one (lo := w.heap.size) w1 hr0 hl3 (Nat.le_refl _) (Nat.le_refl _) (by omega)
  have hz1 : esszL [l0] ≤ 601 := by rw [essz_one]; omega
  obtain ⟨es0, he0, hen⟩ : ∃ es0, es0 = [l0] ∧ es0.length = 1 := ⟨_, rfl, rfl⟩
  rw [← he0] at ho0 hz1
  obtain ⟨wq, hwq⟩ : ∃ u, u = w1.alloc (.cells #[.slice A0 l0.length c0] 35) := ⟨_, rfl⟩
  rw [← hwq] at ho0 ⊢
  have hsq : w1.heap.size + 1 = wq.heap.size := by rw [hwq]; simp
  replace hF : Fr g (g + 1) w wq := by rw [hwq]; exact hF.alloc _
  replace hc : Cur wq g (N + 2000) := by rw [hwq]; exact hc.alloc _
  obtain ⟨D0, hD0⟩ : ∃ D, D = some (⟨w1.heap.size, 0, none⟩ : Addr) := ⟨_, rfl⟩
  rw [← hD0] at ho0 ⊢
  have hD0l : ∀ k, (Value.slice D0 1 1).ownBlock = some k → k < wq.heap.size := fun k hk => by rw [hD0] at hk; simp [Value.ownBlock] at hk; omega
  have hD0H := Lib.hid hD0l
  have hqs : w.heap.size ≤ wq.heap.size := by omega
  have henH := Lib.hid hen
  clear hwq hsq he0 hr0 hl1 hl2 hl3 hD0 hD0l hen
  go_wp2_with fail
  (with_reducible refine (pick_any g (N + 2000) 4 _ hc (by omega) (by omega)).mono ?_)
  rintro e w2 ⟨x, rfl, hx, hcn, f2, z2⟩
  clear hc
  have hc := hcn
  clear hcn
  have s2 : wq.heap.size ≤ w2.heap.size := f2.size
  replace hF := hF.trans f2
  replace ho0 := ho0.fr f2 (by omega)
  clear f2 z2
  obtain ⟨n0, rfl⟩ : ∃ n : Nat, x = (n : Int) := ⟨x.toNat, by omega⟩
  have hn0 : n0 ≤ 3 := by omega
  clear hx
  have v1 : IntKind.i64.wrap (1 + (n0 : Int)) = 1 + (n0 : Int) := IntWalk.i64_in _ (by omega)
  go_wp2_with fail
  (with_reducible refine (one_any g (N + 2002) 20 _ hc (by omega) (by omega)).mono ?_)
  rintro e w3 ⟨v, rfl, hcn, f3, z3⟩
  clear hc
  have hc := hcn
  clear hcn
  have s3 : w2.heap.size ≤ w3.heap.size := f3.size
  replace hF := hF.trans f3
  replace ho0 := ho0.fr f3 (by omega)
  clear f3 z3
  go_upto_if 13 with fail
  clear v1
  go_cut [4] (fun s4 wq2 => ∃ n : Nat, s4 = .int .i64 (n : Int) ∧ n ≤ 9 ∧ OwnLL wq2 w.heap.size (.slice D0 1 1) es0 ∧ Cur wq2 g (N + 2010) ∧ Fr g (g + 1) w wq2 ∧ wq.heap.size ≤ wq2.heap.size)
  case first =>
    cases v with
    | false =>
      have hall := Lib.hid (And.intro ho0 (And.intro hc hF))
      clear ho0 hc hF
      go_wp2_with fail
      go_meet
      case rel => exact ⟨n0 + 1, by first | go_num | (congr 1; omega), by omega, hall.out.1, hall.out.2.1.le (by omega), hall.out.2.2, by omega⟩
    | true =>
      go_wp2_with fail
      (with_reducible refine (pick_any g (N + 2004) 2 _ hc (by omega) (by omega)).mono ?_)
      rintro e w4 ⟨y, rfl, hy, hcn, f4, z4⟩
      clear hc
      have hc := hcn
      clear hcn
      have s4 : w3.heap.size ≤ w4.heap.size := f4.size
      replace hF := hF.trans f4
      replace ho0 := ho0.fr f4 (by omega)
      clear f4 z4
      obtain ⟨n2, rfl⟩ : ∃ n : Nat, y = (n : Int) := ⟨y.toNat, by omega⟩
      have hn2 : n2 ≤ 1 := by omega
      clear hy
      have v2 : IntKind.i64.wrap (8 + (n2 : Int)) = 8 + (n2 : Int) := IntWalk.i64_in _ (by omega)
      have hall := Lib.hid (And.intro ho0 (And.intro hc hF))
      clear ho0 hc hF
      go_wp2_with fail
      go_meet
      case rel => exact ⟨n2 + 8, by first | go_num | (congr 1; omega), by omega, hall.out.1, hall.out.2.1.le (by omega), hall.out.2.2, by omega⟩
  case rest =>
    clear ho0 hc hF
    obtain ⟨n, rfl, hn9, ho, hc, hF, hqq⟩ := hcut
    obtain ⟨wb, rfl⟩ : ∃ u, u = wc := ⟨_, rfl⟩
    have hen := henH.out
    go_wp2_with fail
    go_loopw [3] (fun u wr => ∃ (es : List (List Ent)) (D : Option Addr) (k c : Nat), u = .slice D k c ∧ k = es.length ∧ (1 ≤ k ∧ (k ≤ 1 ∨ k ≤ n) ∧ esszL es ≤ 601 * k) ∧ OwnLL wr w.heap.size (.slice D k c) es ∧ (∀ b, (Value.slice D k c).ownBlock = some b → b < wr.heap.size) ∧ Cur wr g (N + 2010 + 3000 * k) ∧ Fr g (g + 1) w wr) (fun u _ => match u with | .slice _ k _ => 10 - k | _ => 0)
    case atStart => exact ⟨es0, D0, 1, 1, rfl, hen.symm, ⟨Nat.le_refl _, .inl (Nat.le_refl _), hz1⟩, ho, fun b hb => Nat.lt_of_lt_of_le (hD0H.out b hb) (by omega), hc.le (by omega), hF⟩
    case round =>
      clear hc hF ho hen
      obtain ⟨es, D, k, c, rfl, hkl, ⟨hk1, hk2, hez⟩, ho, hbl, hc, hF⟩ := hrel
      have hklH := Lib.hid hkl
      have hblH := Lib.hid hbl
      have hk9 : k ≤ 9 := by omega
      have hgr := hc.lt
      have hsr := hF.size
      clear hkl hbl
      by_cases hlt : k < n
      · have hlt2 : (k : Int) < (n : Int) := by omega
        obtain ⟨gd, A1, c1, l1, h1, hD, x0, hr1, hcap1, hlo1, hhi1⟩ := ho.last (by omega)
        subst hD
        obtain ⟨la, hla⟩ : ∃ la, la = (es[k - 1]?.getD []) := ⟨_, rfl⟩
        have hez1 : eszL la ≤ 1000000 := by
          have h2 := hklH.out
          have h3 : k - 1 < es.length := by omega
          have h4 := essz_at es (k - 1) h3
          rw [hla, List.getElem?_eq_getElem h3, Option.getD_some]; omega
        rw [← hla] at x0 hr1 hcap1
        clear hla
        have i0 : (1 : Int) ≤ (k : Int) := by omega
        have i1 : (k : Int) - 1 < (k : Int) := by omega
        have i2 : ((k : Int) - 1).toNat = k - 1 := by omega
        have i3 : IntKind.i64.wrap ((k : Int) - 1) = (k : Int) - 1 := IntWalk.i64_in _ (by omega)
        obtain ⟨v, hv⟩ : ∃ v, logB la = v := ⟨_, rfl⟩
        have hvH := Lib.hid hv
        clear hv
        go_wp2_with fail
        (with_reducible refine (lgGood_k la A1 la.length c1 _ rfl hr1 (by omega) v hvH.out).mono ?_)
        rintro e w5 ⟨rfl, b5⟩
        have s5 : wr.heap.size ≤ w5.heap.size := b5.size
        replace hc := hc.st b5
        replace hF := hF.then_below b5 hF.size
        replace ho := ho.st b5
        replace hr1 := hr1.st b5
        clear b5
        clear i0 i1 i2 i3 x0
        cases v with
        | false =>
          clear hr1
          go_wp2_with fail
          (with_reducible refine (log_any g (N + 2010 + 3000 * k) _ hc (by omega)).mono ?_)
          rintro e w6 ⟨l2, A2, c2, rfl, ⟨hl1, hl2, hl3⟩, hr2, hcn, f6⟩
          clear hc
          have hc := hcn
          clear hcn
          have s6 : w5.heap.size ≤ w6.heap.size := f6.size
          replace hF := hF.trans f6
          replace ho := ho.fr f6 (by omega)
          clear f6
          have ho2 := Lib.hid (ho.alloc (.cells #[.slice A2 l2.length c2] 35))
          have hc2 := Lib.hid (hc.alloc (.cells #[.slice A2 l2.length c2] 35))
          have hF2 := Lib.hid (hF.alloc (.cells #[.slice A2 l2.length c2] 35))
          have hr2 := Lib.hid (hr2.alloc (.cells #[.slice A2 l2.length c2] 35))
          have bS0 : (w6.alloc (.cells #[.slice A2 l2.length c2] 35)).cell? ⟨w6.heap.size, 0, none⟩ = some (.slice A2 l2.length c2) := (Bk.new w6 35 #[.slice A2 l2.length c2]).cell 0
          have bS := Lib.hid bS0
          clear bS0
          have hkl1 : es.length ≤ 1000000 := by have := hklH.out; omega
          have hww : w.heap.size ≤ w6.heap.size + 1 := by omega
          clear ho hc hF 
          go_wp2_with (at_builtin; refine halt ?_)
          refine Halt.in ?_
          (refine wp_append_log (e := l2) rfl (.tmp 40) (.tmp 43) rfl (v := .slice _ k c) (by rfl) ho2.out (by rfl) bS.out hr2.out hl3 (by omega) (by simp) (fun b hb => Nat.lt_of_lt_of_le (hblH.out b hb) (by omega)) hkl1 (by simp; omega) ?_; intro v8 w88 ho8 hb8; (obtain ⟨D8, c8, rfl⟩ := ho8.form); (obtain ⟨k8, hk8⟩ : ∃ k8, k8 = (es ++ [l2]).length := ⟨_, rfl⟩); rw [← hk8] at ho8 ⊢; (have hk8H := Lib.hid hk8); clear hk8)
          have hs8 : w6.heap.size + 1 ≤ w88.heap.size := by have := hb8.size; (try rw [World.size_alloc] at this); exact this
          have hc8 := hc2.out.below hb8 (by omega)
          have hF8 := hF2.out.then_below hb8 (Nat.le_refl _)
          have hk8e : k8 = k + 1 := by have h1 := hk8H.out; have h2 := hklH.out; rw [h1, List.length_append, ← h2]; rfl
          have hez8 : esszL (es ++ [l2]) ≤ 601 * (k + 1) := by rw [essz_append, essz_one]; omega
          have hbl8 : ∀ b, (Value.slice D8 (k + 1) c8).ownBlock = some b → b < w88.heap.size := fun b hb => by obtain ⟨x, rows, h1, _⟩ := ho8; exact (h1.lt b (by rw [hk8e]; exact hb)).2.2
          rw [hk8e] at ho8 ⊢
          have hk8f : k + 1 = (es ++ [l2]).length := by rw [← hk8e]; exact hk8H.out
          have hall := Lib.hid (And.intro hk8f (And.intro ho8 (And.intro hbl8 (And.intro hc8 hF8))))
          clear ho8 hbl8 hc8 hF8 hb8 hk8f hk8H hk8e ho2 hc2 hF2 hr2 bS hl3
          go_wp2_with fail
          go_roundw
          case rel => exact ⟨es ++ [l2], D8, k + 1, c8, rfl, hall.out.1, ⟨by omega, .inr (by omega), hez8⟩, hall.out.2.1, hall.out.2.2.1, hall.out.2.2.2.1.le (by omega), hall.out.2.2.2.2⟩
          case measure => simp; omega
        | true =>
          go_wp2_with fail
          (with_reducible refine (one_any g (N + 2010 + 3000 * k) 24 _ hc (by omega) (by omega)).mono ?_)
          rintro e w7 ⟨v2, rfl, hcn, f7, z7⟩
          clear hc
          have hc := hcn
          clear hcn
          have s7 : w5.heap.size ≤ w7.heap.size := f7.size
          replace hF := hF.trans f7
          replace ho := ho.fr f7 (by omega)
          replace hr1 := hr1.fr f7 (by omega)
          clear f7 z7
          cases v2 with
          | true =>
            clear hr1
            go_wp2_with fail
            (with_reducible refine (log_any g (N + 2010 + 3000 * k + 2) _ hc (by omega)).mono ?_)
            rintro e w8 ⟨l2, A2, c2, rfl, ⟨hl1, hl2, hl3⟩, hr2, hcn, f8⟩
            clear hc
            have hc := hcn
            clear hcn
            have s8 : w7.heap.size ≤ w8.heap.size := f8.size
            replace hF := hF.trans f8
            replace ho := ho.fr f8 (by omega)
            clear f8
            have ho2 := Lib.hid (ho.alloc (.cells #[.slice A2 l2.length c2] 35))
            have hc2 := Lib.hid (hc.alloc (.cells #[.slice A2 l2.length c2] 35))
            have hF2 := Lib.hid (hF.alloc (.cells #[.slice A2 l2.length c2] 35))
            have hr2 := Lib.hid (hr2.alloc (.cells #[.slice A2 l2.length c2] 35))
            have bS0 : (w8.alloc (.cells #[.slice A2 l2.length c2] 35)).cell? ⟨w8.heap.size, 0, none⟩ = some (.slice A2 l2.length c2) := (Bk.new w8 35 #[.slice A2 l2.length c2]).cell 0
            have bS := Lib.hid bS0
            clear bS0
            have hkl1 : es.length ≤ 1000000 := by have := hklH.out; omega
            have hww : w.heap.size ≤ w8.heap.size + 1 := by omega
            clear ho hc hF 
            go_wp2_with (at_builtin; refine halt ?_)
            refine Halt.in ?_
            (refine wp_append_log (e := l2) rfl (.tmp 40) (.tmp 43) rfl (v := .slice _ k c) (by rfl) ho2.out (by rfl) bS.out hr2.out hl3 (by omega) (by simp) (fun b hb => Nat.lt_of_lt_of_le (hblH.out b hb) (by omega)) hkl1 (by simp; omega) ?_; intro v8 w88 ho8 hb8; (obtain ⟨D8, c8, rfl⟩ := ho8.form); (obtain ⟨k8, hk8⟩ : ∃ k8, k8 = (es ++ [l2]).length := ⟨_, rfl⟩); rw [← hk8] at ho8 ⊢; (have hk8H := Lib.hid hk8); clear hk8)
            have hs8 : w8.heap.size + 1 ≤ w88.heap.size := by have := hb8.size; (try rw [World.size_alloc] at this); exact this
            have hc8 := hc2.out.below hb8 (by omega)
            have hF8 := hF2.out.then_below hb8 (Nat.le_refl _)
            have hk8e : k8 = k + 1 := by have h1 := hk8H.out; have h2 := hklH.out; rw [h1, List.length_append, ← h2]; rfl
            have hez8 : esszL (es ++ [l2]) ≤ 601 * (k + 1) := by rw [essz_append, essz_one]; omega
            have hbl8 : ∀ b, (Value.slice D8 (k + 1) c8).ownBlock = some b → b < w88.heap.size := fun b hb => by obtain ⟨x, rows, h1, _⟩ := ho8; exact (h1.lt b (by rw [hk8e]; exact hb)).2.2
            rw [hk8e] at ho8 ⊢
            have hk8f : k + 1 = (es ++ [l2]).length := by rw [← hk8e]; exact hk8H.out
            have hall := Lib.hid (And.intro hk8f (And.intro ho8 (And.intro hbl8 (And.intro hc8 hF8))))
            clear ho8 hbl8 hc8 hF8 hb8 hk8f hk8H hk8e ho2 hc2 hF2 hr2 bS hl3
            go_wp2_with fail
            go_roundw
            case rel => exact ⟨es ++ [l2], D8, k + 1, c8, rfl, hall.out.1, ⟨by omega, .inr (by omega), hez8⟩, hall.out.2.1, hall.out.2.2.1, hall.out.2.2.2.1.le (by omega), hall.out.2.2.2.2⟩
            case measure => simp; omega
          | false =>
            go_wp2_with fail
            (with_reducible refine (passedOn_any g (N + 2010 + 3000 * k + 2) la A1 c1 _ hc (by omega) hr1 (by omega) hvH.out).mono ?_)
            rintro e w9 ⟨l2, A2, c2, rfl, ⟨hl1, hl2, hl3⟩, hr2, hcn, f9⟩
            clear hc
            have hc := hcn
            clear hcn
            have s9 : w7.heap.size ≤ w9.heap.size := f9.size
            replace hF := hF.trans f9
            replace ho := ho.fr f9 (by omega)
            replace hr1 := hr1.fr f9 (by omega)
            clear f9
            have ho2 := Lib.hid (ho.alloc (.cells #[.slice A2 l2.length c2] 35))
            have hc2 := Lib.hid (hc.alloc (.cells #[.slice A2 l2.length c2] 35))
            have hF2 := Lib.hid (hF.alloc (.cells #[.slice A2 l2.length c2] 35))
            have hr2 := Lib.hid (hr2.alloc (.cells #[.slice A2 l2.length c2] 35))
            have bS0 : (w9.alloc (.cells #[.slice A2 l2.length c2] 35)).cell? ⟨w9.heap.size, 0, none⟩ = some (.slice A2 l2.length c2) := (Bk.new w9 35 #[.slice A2 l2.length c2]).cell 0
            have bS := Lib.hid bS0
            clear bS0
            have hkl1 : es.length ≤ 1000000 := by have := hklH.out; omega
            have hww : w.heap.size ≤ w9.heap.size + 1 := by omega
            clear ho hc hF hr1
            go_wp2_with (at_builtin; refine halt ?_)
            refine Halt.in ?_
            (refine wp_append_log (e := l2) rfl (.tmp 34) (.tmp 38) rfl (v := .slice _ k c) (by rfl) ho2.out (by rfl) bS.out hr2.out hl3 (by omega) (by simp) (fun b hb => Nat.lt_of_lt_of_le (hblH.out b hb) (by omega)) hkl1 (by simp; omega) ?_; intro v8 w88 ho8 hb8; (obtain ⟨D8, c8, rfl⟩ := ho8.form); (obtain ⟨k8, hk8⟩ : ∃ k8, k8 = (es ++ [l2]).length := ⟨_, rfl⟩); rw [← hk8] at ho8 ⊢; (have hk8H := Lib.hid hk8); clear hk8)
            have hs8 : w9.heap.size + 1 ≤ w88.heap.size := by have := hb8.size; (try rw [World.size_alloc] at this); exact this
            have hc8 := hc2.out.below hb8 (by omega)
            have hF8 := hF2.out.then_below hb8 (Nat.le_refl _)
            have hk8e : k8 = k + 1 := by have h1 := hk8H.out; have h2 := hklH.out; rw [h1, List.length_append, ← h2]; rfl
            have hez8 : esszL (es ++ [l2]) ≤ 601 * (k + 1) := by rw [essz_append, essz_one]; omega
            have hbl8 : ∀ b, (Value.slice D8 (k + 1) c8).ownBlock = some b → b < w88.heap.size := fun b hb => by obtain ⟨x, rows, h1, _⟩ := ho8; exact (h1.lt b (by rw [hk8e]; exact hb)).2.2
            rw [hk8e] at ho8 ⊢
            have hk8f : k + 1 = (es ++ [l2]).length := by rw [← hk8e]; exact hk8H.out
            have hall := Lib.hid (And.intro hk8f (And.intro ho8 (And.intro hbl8 (And.intro hc8 hF8))))
            clear ho8 hbl8 hc8 hF8 hb8 hk8f hk8H hk8e ho2 hc2 hF2 hr2 bS hl3
            go_wp2_with fail
            go_roundw
            case rel => exact ⟨es ++ [l2], D8, k + 1, c8, rfl, hall.out.1, ⟨by omega, .inr (by omega), hez8⟩, hall.out.2.1, hall.out.2.2.1, hall.out.2.2.2.1.le (by omega), hall.out.2.2.2.2⟩
            case measure => simp; omega
      · have hlt2 : ¬ ((k : Int) < (n : Int)) := by omega
        obtain ⟨wm, rfl⟩ : ∃ u, u = wr := ⟨_, rfl⟩
        go_wp2_with fail
        (with_reducible refine (one_any g (N + 2010 + 3000 * k) 24 _ hc (by omega) (by omega)).mono ?_)
        rintro e w10 ⟨v, rfl, hcn, f10, z10⟩
        clear hc
        have hc := hcn
        clear hcn
        have s10 : wm.heap.size ≤ w10.heap.size := f10.size
        replace hF := hF.trans f10
        replace ho := ho.fr f10 (by omega)
        clear f10 z10
        cases v with
        | true =>
          have hall := Lib.hid (And.intro hc hF)
          clear ho hc hF
          go_wp2_with fail
          go_ret
          exact ⟨[], none, 0, rfl, ⟨by simp, by simp [esszL], by simp⟩, RdEE.nil, hall.out.1.le (by omega), hall.out.2⟩
        | false =>
          have hrd := ho.rd
          have hall := Lib.hid (And.intro hrd (And.intro hc hF))
          clear ho hc hF hrd
          go_wp2_with fail
          go_ret
          have hkl := hklH.out
          exact ⟨es, D, c, by rw [← hkl]; rfl, ⟨by omega, by omega, by rw [← hkl]; exact hall.out.1.2.2⟩, hall.out.1.1, hall.out.2.1.le (by omega), hall.out.2.2⟩
end Go.Proofs.YtjhbffndiaggmaaDoor

/-
  Contracts of the draws of FnAudits. The conditions are bounds on lengths.
-/
namespace Go.Proofs.YtjhbffndiaggmaaDoor
open Go.RowKit Go.ChangeShapes Go.WideShapes
set_option linter.unusedVariables false
set_option linter.unusedSimpArgs false

set_option maxRecDepth 100000 in
set_option maxHeartbeats 4000000 in
theorem drawAreLogs_any (A0 : Option Addr) (n c0 : Nat) (w : World) (hcd : CodeAt w w.heap.size A0 n) (hn : n ≤ 9223372036854775807) (hnc : n ≤ c0) :
    Calls Tryd.prog 23 #[.slice A0 n c0] w fun e w' => ∃ (es : List (List Ent)) (A : Option Addr) (c : Nat), e = .returned (.slice A es.length c) ∧ (es.length ≤ 10 ∧ esszL es ≤ 8000 ∧ es.length ≤ c) ∧ RdEE w' w.heap.size w'.heap.size A es ∧ Below w.heap.size w w' := by
  go_enter Tryd.func23, Tryd.ntmps23
  go_wp2_with fail
  obtain ⟨w1, hw1⟩ : ∃ u, u = w.alloc (.cells #[.slice A0 n c0, .int .i64 0, .int .u64 0] 57) := ⟨_, rfl⟩
  rw [← hw1]
  have e1 : w1.heap.size = w.heap.size + 1 := by rw [hw1]; simp
  have s1 : w.heap.size + 1 ≤ w1.heap.size := by omega
  have hB : Below w.heap.size w w1 := by rw [hw1]; exact (Below.refl _ _).alloc (Nat.le_refl _) _
  have hc : Cur w1 w.heap.size 0 := by rw [hw1]; exact Cur.fresh hcd hn hnc
  replace e1 := Lib.hid e1
  clear hw1 hcd
  (with_reducible refine (lineLogs_any w.heap.size 0 _ hc (by omega)).mono ?_)
  rintro e w2 ⟨es, A, c, rfl, hb, hr, hcn, f2⟩
  clear hc
  have hc := hcn
  clear hcn
  have s2 : w1.heap.size ≤ w2.heap.size := f2.size
  replace hB := hB.trans (Fr.below f2 (by omega) (by omega))
  clear f2
  have hall := Lib.hid (And.intro (hr.mono (show w.heap.size ≤ _ by omega) (Nat.le_refl _)) hB)
  clear hr hB hc
  go_wp2_with fail
  go_ret
  exact ⟨es, A, c, rfl, hb, hall.out.1, hall.out.2⟩
set_option maxRecDepth 100000 in
set_option maxHeartbeats 4000000 in
theorem drawLineFaults_any (A0 : Option Addr) (n c0 : Nat) (w : World) (hcd : CodeAt w w.heap.size A0 n) (hn : n ≤ 9223372036854775807) (hnc : n ≤ c0) :
    Calls Tryd.prog 4 #[.slice A0 n c0] w fun e w' => ∃ (es : List (List Ent)) (A : Option Addr) (c : Nat), e = .returned (.slice A es.length c) ∧ (es.length ≤ 10 ∧ esszL es ≤ 8000 ∧ es.length ≤ c) ∧ RdEE w' w.heap.size w'.heap.size A es ∧ Below w.heap.size w w' := by
  go_enter Tryd.func4, Tryd.ntmps4
  go_wp2_with fail
  (with_reducible refine (drawAreLogs_any A0 n c0 _ hcd hn hnc).mono ?_)
  rintro e w1 ⟨es, A, c, rfl, hb, hr, hB⟩
  have hall := Lib.hid (And.intro hr hB)
  clear hr hB hcd
  go_wp2_with fail
  go_ret
  exact ⟨es, A, c, rfl, hb, hall.out.1, hall.out.2⟩
set_option maxRecDepth 100000 in
set_option maxHeartbeats 8000000 in
theorem drawPairFaults_any (A0 : Option Addr) (n c0 : Nat) (w : World) (hcd : CodeAt w w.heap.size A0 n) (hn : n ≤ 9223372036854775807) (hnc : n ≤ c0) :
    Calls Tryd.prog 13 #[.slice A0 n c0] w fun e w' => ∃ (es fs : List Ent) (A : Option Addr) (c : Nat) (B : Option Addr) (d : Nat), e = .returned (.tuple #[.slice A es.length c, .slice B fs.length d]) ∧ (es.length ≤ 31 ∧ fs.length ≤ 31 ∧ eszL es ≤ 600 ∧ eszL fs ≤ 600 ∧ es.length ≤ c ∧ fs.length ≤ d) ∧ RdE w' w.heap.size w'.heap.size A es ∧ RdE w' w.heap.size w'.heap.size B fs ∧ Below w.heap.size w w' := by
  go_enter Tryd.func13, Tryd.ntmps13
  go_wp2_with fail
  obtain ⟨w1, hw1⟩ : ∃ u, u = w.alloc (.cells #[.slice A0 n c0, .int .i64 0, .int .u64 0] 57) := ⟨_, rfl⟩
  rw [← hw1]
  have e1 : w1.heap.size = w.heap.size + 1 := by rw [hw1]; simp
  have s1 : w.heap.size + 1 ≤ w1.heap.size := by omega
  have hB : Below w.heap.size w w1 := by rw [hw1]; exact (Below.refl _ _).alloc (Nat.le_refl _) _
  have hc : Cur w1 w.heap.size 0 := by rw [hw1]; exact Cur.fresh hcd hn hnc
  replace e1 := Lib.hid e1
  clear hw1 hcd
  (with_reducible refine (log_any w.heap.size 0 _ hc (by omega)).mono ?_)
  rintro e w2 ⟨es, A, c, rfl, ⟨b1, b2, b3⟩, hr, hcn, f2⟩
  clear hc
  have hc := hcn
  clear hcn
  have s2 : w1.heap.size ≤ w2.heap.size := f2.size
  replace hB := hB.trans (Fr.below f2 (by omega) (by omega))
  clear f2
  obtain ⟨v, hv⟩ : ∃ v, logB es = v := ⟨_, rfl⟩
  have hvH := Lib.hid hv
  clear hv
  go_wp2_with fail
  (with_reducible refine (lgGood_k es A es.length c _ rfl hr (by omega) v hvH.out).mono ?_)
  rintro e w3 ⟨rfl, b3⟩
  have s3 : w2.heap.size ≤ w3.heap.size := b3.size
  replace hB := hB.trans (Below.mono b3 hB.size)
  replace hc := hc.st b3
  replace hr := hr.st b3
  clear b3
  cases v with
  | false =>
    go_wp2_with fail
    (with_reducible refine (log_any w.heap.size (0 + 2000) _ hc (by omega)).mono ?_)
    rintro e w4 ⟨fs, B, d, rfl, ⟨d1, d2, d3⟩, hs, hcn, f4⟩
    clear hc
    have hc := hcn
    clear hcn
    have s4 : w3.heap.size ≤ w4.heap.size := f4.size
    replace hB := hB.trans (Fr.below f4 (by omega) (by omega))
    replace hr := hr.fr f4 (by omega)
    clear f4
    have hall := Lib.hid (And.intro (hr.mono (show w.heap.size ≤ _ by omega) (show _ ≤ w4.heap.size by omega)) (And.intro (hs.mono (show w.heap.size ≤ _ by omega) (Nat.le_refl _)) hB))
    clear hr hs hB hc
    go_wp2_with fail
    go_ret2
    exact ⟨es, fs, A, c, B, d, rfl, ⟨b1, d1, b2, d2, b3, d3⟩, hall.out.1, hall.out.2.1, hall.out.2.2⟩
  | true =>
    go_wp2_with fail
    (with_reducible refine (one_any w.heap.size (0 + 2000) 6 _ hc (by omega) (by omega)).mono ?_)
    rintro e w5 ⟨v2, rfl, hcn, f5, z5⟩
    clear hc
    have hc := hcn
    clear hcn
    have s5 : w3.heap.size ≤ w5.heap.size := f5.size
    replace hB := hB.trans (Fr.below f5 (by omega) (by omega))
    replace hr := hr.fr f5 (by omega)
    clear f5 z5
    cases v2 with
    | true =>
      go_wp2_with fail
      (with_reducible refine (log_any w.heap.size (0 + 2000 + 2) _ hc (by omega)).mono ?_)
      rintro e w6 ⟨fs, B, d, rfl, ⟨d1, d2, d3⟩, hs, hcn, f6⟩
      clear hc
      have hc := hcn
      clear hcn
      have s6 : w5.heap.size ≤ w6.heap.size := f6.size
      replace hB := hB.trans (Fr.below f6 (by omega) (by omega))
      replace hr := hr.fr f6 (by omega)
      clear f6
      have hall := Lib.hid (And.intro (hr.mono (show w.heap.size ≤ _ by omega) (show _ ≤ w6.heap.size by omega)) (And.intro (hs.mono (show w.heap.size ≤ _ by omega) (Nat.le_refl _)) hB))
      clear hr hs hB hc
      go_wp2_with fail
      go_ret2
      exact ⟨es, fs, A, c, B, d, rfl, ⟨b1, d1, b2, d2, b3, d3⟩, hall.out.1, hall.out.2.1, hall.out.2.2⟩
    | false =>
      go_wp2_with fail
      (with_reducible refine (passedOn_any w.heap.size (0 + 2000 + 2) es A c _ hc (by omega) hr (by omega) hvH.out).mono ?_)
      rintro e w7 ⟨fs, B, d, rfl, ⟨d1, d2, d3⟩, hs, hcn, f7⟩
      clear hc
      have hc := hcn
      clear hcn
      have s7 : w5.heap.size ≤ w7.heap.size := f7.size
      replace hB := hB.trans (Fr.below f7 (by omega) (by omega))
      replace hr := hr.fr f7 (by omega)
      clear f7
      have hall := Lib.hid (And.intro (hr.mono (show w.heap.size ≤ _ by omega) (show _ ≤ w7.heap.size by omega)) (And.intro (hs.mono (show w.heap.size ≤ _ by omega) (Nat.le_refl _)) hB))
      clear hr hs hB hc
      go_wp2_with fail
      go_ret2
      exact ⟨es, fs, A, c, B, d, rfl, ⟨b1, d1, b2, d2, b3, d3⟩, hall.out.1, hall.out.2.1, hall.out.2.2⟩
set_option maxRecDepth 100000 in
set_option maxHeartbeats 8000000 in
theorem drawFaultText_any (A0 : Option Addr) (n c0 : Nat) (w : World) (hcd : CodeAt w w.heap.size A0 n) (hn : n ≤ 9223372036854775807) (hnc : n ≤ c0) :
    Calls Tryd.prog 16 #[.slice A0 n c0] w fun e w' => ∃ (zs : List Int) (A : Option Addr) (c : Nat), e = .returned (.slice A zs.length c) ∧ (zs.length ≤ 4 ∧ zs.length ≤ c) ∧ Rd w' w.heap.size w'.heap.size A zs ∧ Below w.heap.size w w' := by
  go_enter Tryd.func16, Tryd.ntmps16
  go_wp2_with fail
  obtain ⟨w1, hw1⟩ : ∃ u, u = w.alloc (.cells #[.slice A0 n c0, .int .i64 0, .int .u64 0] 57) := ⟨_, rfl⟩
  rw [← hw1]
  have e1 : w1.heap.size = w.heap.size + 1 := by rw [hw1]; simp
  have s1 : w.heap.size + 1 ≤ w1.heap.size := by omega
  have hB : Below w.heap.size w w1 := by rw [hw1]; exact (Below.refl _ _).alloc (Nat.le_refl _) _
  have hc : Cur w1 w.heap.size 0 := by rw [hw1]; exact Cur.fresh hcd hn hnc
  replace e1 := Lib.hid e1
  clear hw1 hcd
  obtain ⟨w2, hw2⟩ : ∃ u, u = w1.alloc (.cells #[.int .i64 0, .int .i64 1000] 3) := ⟨_, rfl⟩
  rw [← hw2]
  have e2 : w2.heap.size = w1.heap.size + 1 := by rw [hw2]; simp
  have s2 : w1.heap.size + 1 ≤ w2.heap.size := by omega
  have b2 : Below w1.heap.size w1 w2 := by rw [hw2]; exact (Below.refl _ _).alloc (Nat.le_refl _) _
  have a2 : w1.heap.size = w.heap.size + 1 := by have h0 := e1.out; omega
  have r2 : Rd w2 (w.heap.size + 1) (w.heap.size + 1 + 1) (some ⟨w.heap.size + 1, 0, none⟩) [0, 1000] := by rw [← a2]; rw [hw2]; exact Rd.one _ _ _ _ rfl
  replace hc := hc.st b2
  replace hB := hB.trans (Below.mono b2 hB.size)
  replace e2 := Lib.hid e2
  clear b2 hw2 a2
  (with_reducible refine (among_any w.heap.size (0) [0, 1000] _ 2 _ _ hc (by omega) r2 rfl (by simp) (by simp) (by omega)).mono ?_)
  rintro e w3 ⟨x0, rfl, hx0, hcn, f3, z3⟩
  clear hc
  have hc := hcn
  clear hcn
  have s3 : w2.heap.size ≤ w3.heap.size := f3.size
  replace hB := hB.trans (Fr.below f3 (by omega) (by omega))
  replace r2 := r2.fr f3 (by omega)
  clear f3 z3
  clear hx0
  clear r2
  go_wp2_with fail
  obtain ⟨w4, hw4⟩ : ∃ u, u = w3.alloc (.cells #[.int .i64 1, .int .i64 12, .int .i64 999, .int .i64 x0] 3) := ⟨_, rfl⟩
  rw [← hw4]
  have e4 : w4.heap.size = w3.heap.size + 1 := by rw [hw4]; simp
  have s4 : w3.heap.size + 1 ≤ w4.heap.size := by omega
  have b4 : Below w3.heap.size w3 w4 := by rw [hw4]; exact (Below.refl _ _).alloc (Nat.le_refl _) _
  have r4 : Rd w4 (w3.heap.size) (w3.heap.size + 1) (some ⟨w3.heap.size, 0, none⟩) [1, 12, 999, x0] := by rw [hw4]; exact Rd.one _ _ _ _ rfl
  replace hB := hB.trans (Below.mono b4 hB.size)
  replace hc := hc.st b4
  replace e4 := Lib.hid e4
  clear b4 hw4
  (with_reducible refine (among_any w.heap.size (0 + 2) [1, 12, 999, x0] _ 4 _ _ hc (by omega) r4 rfl (by simp) (by simp) (by omega)).mono ?_)
  rintro e w5 ⟨y0, rfl, hy0, hcn, f5, z5⟩
  clear hc
  have hc := hcn
  clear hcn
  have s5 : w4.heap.size ≤ w5.heap.size := f5.size
  replace hB := hB.trans (Fr.below f5 (by omega) (by omega))
  replace r4 := r4.fr f5 (by omega)
  clear f5 z5
  clear hy0
  clear r4
  replace hc := hc.le (show _ ≤ 0 + 4 by omega)
  go_wp2_with fail
  obtain ⟨w6, hw6⟩ : ∃ u, u = w5.alloc (.cells #[.int .i64 9, .int .i64 (-1)] 3) := ⟨_, rfl⟩
  rw [← hw6]
  have e6 : w6.heap.size = w5.heap.size + 1 := by rw [hw6]; simp
  have s6 : w5.heap.size + 1 ≤ w6.heap.size := by omega
  have b6 : Below w5.heap.size w5 w6 := by rw [hw6]; exact (Below.refl _ _).alloc (Nat.le_refl _) _
  have r6 : Rd w6 (w5.heap.size) (w5.heap.size + 1) (some ⟨w5.heap.size, 0, none⟩) [9, -1] := by rw [hw6]; exact Rd.one _ _ _ _ rfl
  replace hB := hB.trans (Below.mono b6 hB.size)
  replace hc := hc.st b6
  replace e6 := Lib.hid e6
  clear b6 hw6
  (with_reducible refine (among_any w.heap.size (0 + 4) [9, -1] _ 2 _ _ hc (by omega) r6 rfl (by simp) (by simp) (by omega)).mono ?_)
  rintro e w7 ⟨x1, rfl, hx1, hcn, f7, z7⟩
  clear hc
  have hc := hcn
  clear hcn
  have s7 : w6.heap.size ≤ w7.heap.size := f7.size
  replace hB := hB.trans (Fr.below f7 (by omega) (by omega))
  replace r6 := r6.fr f7 (by omega)
  clear f7 z7
  clear hx1
  clear r6
  go_wp2_with fail
  obtain ⟨w8, hw8⟩ : ∃ u, u = w7.alloc (.cells #[.int .i64 0, .int .i64 5, .int .i64 8, .int .i64 x1] 3) := ⟨_, rfl⟩
  rw [← hw8]
  have e8 : w8.heap.size = w7.heap.size + 1 := by rw [hw8]; simp
  have s8 : w7.heap.size + 1 ≤ w8.heap.size := by omega
  have b8 : Below w7.heap.size w7 w8 := by rw [hw8]; exact (Below.refl _ _).alloc (Nat.le_refl _) _
  have r8 : Rd w8 (w7.heap.size) (w7.heap.size + 1) (some ⟨w7.heap.size, 0, none⟩) [0, 5, 8, x1] := by rw [hw8]; exact Rd.one _ _ _ _ rfl
  replace hB := hB.trans (Below.mono b8 hB.size)
  replace hc := hc.st b8
  replace e8 := Lib.hid e8
  clear b8 hw8
  (with_reducible refine (among_any w.heap.size (0 + 4 + 2) [0, 5, 8, x1] _ 4 _ _ hc (by omega) r8 rfl (by simp) (by simp) (by omega)).mono ?_)
  rintro e w9 ⟨y1, rfl, hy1, hcn, f9, z9⟩
  clear hc
  have hc := hcn
  clear hcn
  have s9 : w8.heap.size ≤ w9.heap.size := f9.size
  replace hB := hB.trans (Fr.below f9 (by omega) (by omega))
  replace r8 := r8.fr f9 (by omega)
  clear f9 z9
  clear hy1
  clear r8
  replace hc := hc.le (show _ ≤ 0 + 8 by omega)
  go_wp2_with fail
  obtain ⟨w10, hw10⟩ : ∃ u, u = w9.alloc (.cells #[.int .i64 0, .int .i64 6] 3) := ⟨_, rfl⟩
  rw [← hw10]
  have e10 : w10.heap.size = w9.heap.size + 1 := by rw [hw10]; simp
  have s10 : w9.heap.size + 1 ≤ w10.heap.size := by omega
  have b10 : Below w9.heap.size w9 w10 := by rw [hw10]; exact (Below.refl _ _).alloc (Nat.le_refl _) _
  have r10 : Rd w10 (w9.heap.size) (w9.heap.size + 1) (some ⟨w9.heap.size, 0, none⟩) [0, 6] := by rw [hw10]; exact Rd.one _ _ _ _ rfl
  replace hB := hB.trans (Below.mono b10 hB.size)
  replace hc := hc.st b10
  replace e10 := Lib.hid e10
  clear b10 hw10
  (with_reducible refine (among_any w.heap.size (0 + 8) [0, 6] _ 2 _ _ hc (by omega) r10 rfl (by simp) (by simp) (by omega)).mono ?_)
  rintro e w11 ⟨x2, rfl, hx2, hcn, f11, z11⟩
  clear hc
  have hc := hcn
  clear hcn
  have s11 : w10.heap.size ≤ w11.heap.size := f11.size
  replace hB := hB.trans (Fr.below f11 (by omega) (by omega))
  replace r10 := r10.fr f11 (by omega)
  clear f11 z11
  clear hx2
  clear r10
  go_wp2_with fail
  obtain ⟨w12, hw12⟩ : ∃ u, u = w11.alloc (.cells #[.int .i64 1, .int .i64 2, .int .i64 3, .int .i64 4, .int .i64 5, .int .i64 x2] 3) := ⟨_, rfl⟩
  rw [← hw12]
  have e12 : w12.heap.size = w11.heap.size + 1 := by rw [hw12]; simp
  have s12 : w11.heap.size + 1 ≤ w12.heap.size := by omega
  have b12 : Below w11.heap.size w11 w12 := by rw [hw12]; exact (Below.refl _ _).alloc (Nat.le_refl _) _
  have r12 : Rd w12 (w11.heap.size) (w11.heap.size + 1) (some ⟨w11.heap.size, 0, none⟩) [1, 2, 3, 4, 5, x2] := by rw [hw12]; exact Rd.one _ _ _ _ rfl
  replace hB := hB.trans (Below.mono b12 hB.size)
  replace hc := hc.st b12
  replace e12 := Lib.hid e12
  clear b12 hw12
  (with_reducible refine (among_any w.heap.size (0 + 8 + 2) [1, 2, 3, 4, 5, x2] _ 6 _ _ hc (by omega) r12 rfl (by simp) (by simp) (by omega)).mono ?_)
  rintro e w13 ⟨y2, rfl, hy2, hcn, f13, z13⟩
  clear hc
  have hc := hcn
  clear hcn
  have s13 : w12.heap.size ≤ w13.heap.size := f13.size
  replace hB := hB.trans (Fr.below f13 (by omega) (by omega))
  replace r12 := r12.fr f13 (by omega)
  clear f13 z13
  clear hy2
  clear r12
  replace hc := hc.le (show _ ≤ 0 + 12 by omega)
  go_wp2_with fail
  obtain ⟨w14, hw14⟩ : ∃ u, u = w13.alloc (.cells #[.int .i64 8, .int .i64 (-1)] 3) := ⟨_, rfl⟩
  rw [← hw14]
  have e14 : w14.heap.size = w13.heap.size + 1 := by rw [hw14]; simp
  have s14 : w13.heap.size + 1 ≤ w14.heap.size := by omega
  have b14 : Below w13.heap.size w13 w14 := by rw [hw14]; exact (Below.refl _ _).alloc (Nat.le_refl _) _
  have r14 : Rd w14 (w13.heap.size) (w13.heap.size + 1) (some ⟨w13.heap.size, 0, none⟩) [8, -1] := by rw [hw14]; exact Rd.one _ _ _ _ rfl
  replace hB := hB.trans (Below.mono b14 hB.size)
  replace hc := hc.st b14
  replace e14 := Lib.hid e14
  clear b14 hw14
  (with_reducible refine (among_any w.heap.size (0 + 12) [8, -1] _ 2 _ _ hc (by omega) r14 rfl (by simp) (by simp) (by omega)).mono ?_)
  rintro e w15 ⟨x3, rfl, hx3, hcn, f15, z15⟩
  clear hc
  have hc := hcn
  clear hcn
  have s15 : w14.heap.size ≤ w15.heap.size := f15.size
  replace hB := hB.trans (Fr.below f15 (by omega) (by omega))
  replace r14 := r14.fr f15 (by omega)
  clear f15 z15
  clear hx3
  clear r14
  go_wp2_with fail
  obtain ⟨w16, hw16⟩ : ∃ u, u = w15.alloc (.cells #[.int .i64 0, .int .i64 3, .int .i64 7, .int .i64 x3] 3) := ⟨_, rfl⟩
  rw [← hw16]
  have e16 : w16.heap.size = w15.heap.size + 1 := by rw [hw16]; simp
  have s16 : w15.heap.size + 1 ≤ w16.heap.size := by omega
  have b16 : Below w15.heap.size w15 w16 := by rw [hw16]; exact (Below.refl _ _).alloc (Nat.le_refl _) _
  have r16 : Rd w16 (w15.heap.size) (w15.heap.size + 1) (some ⟨w15.heap.size, 0, none⟩) [0, 3, 7, x3] := by rw [hw16]; exact Rd.one _ _ _ _ rfl
  replace hB := hB.trans (Below.mono b16 hB.size)
  replace hc := hc.st b16
  replace e16 := Lib.hid e16
  clear b16 hw16
  (with_reducible refine (among_any w.heap.size (0 + 12 + 2) [0, 3, 7, x3] _ 4 _ _ hc (by omega) r16 rfl (by simp) (by simp) (by omega)).mono ?_)
  rintro e w17 ⟨y3, rfl, hy3, hcn, f17, z17⟩
  clear hc
  have hc := hcn
  clear hcn
  have s17 : w16.heap.size ≤ w17.heap.size := f17.size
  replace hB := hB.trans (Fr.below f17 (by omega) (by omega))
  replace r16 := r16.fr f17 (by omega)
  clear f17 z17
  clear hy3
  clear r16
  go_wp2_with fail
  obtain ⟨w18, hw18⟩ : ∃ u, u = w17.alloc (.cells #[.int .i64 y0, .int .i64 y1, .int .i64 y2, .int .i64 y3] 3) := ⟨_, rfl⟩
  rw [← hw18]
  have e18 : w18.heap.size = w17.heap.size + 1 := by rw [hw18]; simp
  have s18 : w17.heap.size + 1 ≤ w18.heap.size := by omega
  have b18 : Below w17.heap.size w17 w18 := by rw [hw18]; exact (Below.refl _ _).alloc (Nat.le_refl _) _
  have rf : Rd w18 (w17.heap.size) (w17.heap.size + 1) (some ⟨w17.heap.size, 0, none⟩) [y0, y1, y2, y3] := by rw [hw18]; exact Rd.one _ _ _ _ rfl
  replace hB := hB.trans (Below.mono b18 hB.size)
  replace hc := hc.st b18
  replace e18 := Lib.hid e18
  clear b18 hw18
  (with_reducible refine (one_any w.heap.size _ 16 _ hc (by omega) (by omega)).mono ?_)
  rintro e w19 ⟨v, rfl, hcn, f19, z19⟩
  clear hc
  have hc := hcn
  clear hcn
  have s19 : w18.heap.size ≤ w19.heap.size := f19.size
  replace hB := hB.trans (Fr.below f19 (by omega) (by omega))
  replace rf := rf.fr f19 (by omega)
  clear f19 z19
  have rt : Rd w19 w.heap.size w19.heap.size (some ⟨w17.heap.size, 1, none⟩) [y1, y2, y3] := fun _ => by
    obtain ⟨b, off, he, q1, q2, hcell⟩ := rf (by simp)
    injection he with he
    injection he with he1 he2
    subst he1 he2
    refine ⟨_, 1, rfl, by omega, by omega, fun j hj => ?_⟩
    have h3 := hcell (j + 1) (by simp at hj ⊢; omega)
    rw [show 0 + (j + 1) = 1 + j by omega] at h3
    rw [h3]; rfl
  replace rf := rf.mono (show w.heap.size ≤ _ by omega) (show _ ≤ w19.heap.size by omega)
  have hall := Lib.hid (And.intro rf (And.intro rt hB))
  clear rf rt hB hc
  cases v with
  | false =>
    go_wp2_with fail
    go_ret
    exact ⟨[y0, y1, y2, y3], _, 4, rfl, by simp, hall.out.1, hall.out.2.2⟩
  | true =>
    go_wp2_with fail
    go_ret
    exact ⟨[y1, y2, y3], _, 3, rfl, by simp, hall.out.2.1, hall.out.2.2⟩
end Go.Proofs.YtjhbffndiaggmaaDoor
