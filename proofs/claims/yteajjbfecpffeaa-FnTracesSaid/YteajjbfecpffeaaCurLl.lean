/-
  Contracts of the draws of a line's logs. The conditions are bounds on lengths.
-/
import Derived.Test.YteajjbfecpffeaaCurPo
import Derived.Test.YteajjbfecpffeaaMemLL
import Derived.Deep.QuietTactic
import Derived.BigQuiet
namespace Go.Proofs.Yteajjbfecpffeaa
open Go.RowKit Go.ChangeShapes Go.WideShapes
set_option linter.unusedVariables false
set_option linter.unusedSimpArgs false

set_option maxRecDepth 100000 in
set_option maxHeartbeats 8000000 in
theorem lineLogs_any (g N : Nat) (w : World) (hc : Cur w g N) (hN : N ≤ 4611686018427000000) :
    Calls Try.prog 55 #[.pointer (some ⟨g, 0, none⟩)] w fun e w' => ∃ (es : List (List Ent)) (A : Option Addr) (c : Nat), e = .returned (.slice A es.length c) ∧ (es.length ≤ 10 ∧ esszL es ≤ 8000 ∧ es.length ≤ c) ∧ RdEE w' w.heap.size w'.heap.size A es ∧ Cur w' g (N + 40000) ∧ Fr g (g + 1) w w' := by
  have hgl := hc.lt
  have hF := Fr.refl g (g + 1) w
  go_enter Try.func55, Try.ntmps55
  go_wp2_with fail
  (with_reducible refine (log_any g N _ hc (by omega)).mono ?_)
  rintro e w1 ⟨l0, A0, c0, rfl, ⟨hl1, hl2, hl3⟩, hr0, hcn, f1⟩
  clear hc
  have hc := hcn
  clear hcn
  have s1 : w.heap.size ≤ w1.heap.size := f1.size
  replace hF := hF.trans f1
  clear f1
  go_upto_region 2 with fail
  have ho0 := OwnLL.one (lo := w.heap.size) w1 hr0 hl3 (Nat.le_refl _) (Nat.le_refl _) (by omega)
  have hz1 : esszL [l0] ≤ 601 := by rw [essz_one]; omega
  obtain ⟨es0, he0, hen⟩ : ∃ es0, es0 = [l0] ∧ es0.length = 1 := ⟨_, rfl, rfl⟩
  rw [← he0] at ho0 hz1
  obtain ⟨wq, hwq⟩ : ∃ u, u = w1.alloc (.cells #[.slice A0 l0.length c0] 24) := ⟨_, rfl⟩
  rw [← hwq] at ho0 ⊢
  have hsq : w1.heap.size + 1 = wq.heap.size := by rw [hwq]; simp
  replace hF : Fr g (g + 1) w wq := by rw [hwq]; exact hF.alloc _
  replace hc : Cur wq g (N + 2000) := by rw [hwq]; exact hc.alloc _
  obtain ⟨D0, hD0⟩ : ∃ D, D = some (⟨w1.heap.size, 0, none⟩ : Addr) := ⟨_, rfl⟩
  rw [← hD0] at ho0 ⊢
  have hD0l : ∀ k, (Value.slice D0 1 1).ownBlock = some k → k < wq.heap.size := fun k hk => by rw [hD0] at hk; simp [Value.ownBlock] at hk; omega
  have hD0H := Lib.hid hD0l
  have hqs : w.heap.size ≤ wq.heap.size := by omega
  have henH := Lib.hid hen
  clear hwq hsq he0 hr0 hl1 hl2 hl3 hD0 hD0l hen
  go_wp2_with fail
  (with_reducible refine (pick_any g (N + 2000) 4 _ hc (by omega) (by omega)).mono ?_)
  rintro e w2 ⟨x, rfl, hx, hcn, f2, z2⟩
  clear hc
  have hc := hcn
  clear hcn
  have s2 : wq.heap.size ≤ w2.heap.size := f2.size
  replace hF := hF.trans f2
  replace ho0 := ho0.fr f2 (by omega)
  clear f2 z2
  obtain ⟨n0, rfl⟩ : ∃ n : Nat, x = (n : Int) := ⟨x.toNat, by omega⟩
  have hn0 : n0 ≤ 3 := by omega
  clear hx
  have v1 : IntKind.i64.wrap (1 + (n0 : Int)) = 1 + (n0 : Int) := IntWalk.i64_in _ (by omega)
  go_wp2_with fail
  (with_reducible refine (one_any g (N + 2002) 20 _ hc (by omega) (by omega)).mono ?_)
  rintro e w3 ⟨v, rfl, hcn, f3, z3⟩
  clear hc
  have hc := hcn
  clear hcn
  have s3 : w2.heap.size ≤ w3.heap.size := f3.size
  replace hF := hF.trans f3
  replace ho0 := ho0.fr f3 (by omega)
  clear f3 z3
  go_upto_if 13 with fail
  clear v1
  go_cut [4] (fun s4 wq2 => ∃ n : Nat, s4 = .int .i64 (n : Int) ∧ n ≤ 9 ∧ OwnLL wq2 w.heap.size (.slice D0 1 1) es0 ∧ Cur wq2 g (N + 2010) ∧ Fr g (g + 1) w wq2 ∧ wq.heap.size ≤ wq2.heap.size)
  case first =>
    cases v with
    | false =>
      have hall := Lib.hid (And.intro ho0 (And.intro hc hF))
      clear ho0 hc hF
      go_wp2_with fail
      go_meet
      case rel => exact ⟨n0 + 1, by first | go_num | (congr 1; omega), by omega, hall.out.1, hall.out.2.1.le (by omega), hall.out.2.2, by omega⟩
    | true =>
      go_wp2_with fail
      (with_reducible refine (pick_any g (N + 2004) 2 _ hc (by omega) (by omega)).mono ?_)
      rintro e w4 ⟨y, rfl, hy, hcn, f4, z4⟩
      clear hc
      have hc := hcn
      clear hcn
      have s4 : w3.heap.size ≤ w4.heap.size := f4.size
      replace hF := hF.trans f4
      replace ho0 := ho0.fr f4 (by omega)
      clear f4 z4
      obtain ⟨n2, rfl⟩ : ∃ n : Nat, y = (n : Int) := ⟨y.toNat, by omega⟩
      have hn2 : n2 ≤ 1 := by omega
      clear hy
      have v2 : IntKind.i64.wrap (8 + (n2 : Int)) = 8 + (n2 : Int) := IntWalk.i64_in _ (by omega)
      have hall := Lib.hid (And.intro ho0 (And.intro hc hF))
      clear ho0 hc hF
      go_wp2_with fail
      go_meet
      case rel => exact ⟨n2 + 8, by first | go_num | (congr 1; omega), by omega, hall.out.1, hall.out.2.1.le (by omega), hall.out.2.2, by omega⟩
  case rest =>
    clear ho0 hc hF
    obtain ⟨n, rfl, hn9, ho, hc, hF, hqq⟩ := hcut
    obtain ⟨wb, rfl⟩ : ∃ u, u = wc := ⟨_, rfl⟩
    have hen := henH.out
    go_wp2_with fail
    go_loopw [3] (fun u wr => ∃ (es : List (List Ent)) (D : Option Addr) (k c : Nat), u = .slice D k c ∧ k = es.length ∧ (1 ≤ k ∧ (k ≤ 1 ∨ k ≤ n) ∧ esszL es ≤ 601 * k) ∧ OwnLL wr w.heap.size (.slice D k c) es ∧ (∀ b, (Value.slice D k c).ownBlock = some b → b < wr.heap.size) ∧ Cur wr g (N + 2010 + 3000 * k) ∧ Fr g (g + 1) w wr) (fun u _ => match u with | .slice _ k _ => 10 - k | _ => 0)
    case atStart => exact ⟨es0, D0, 1, 1, rfl, hen.symm, ⟨Nat.le_refl _, .inl (Nat.le_refl _), hz1⟩, ho, fun b hb => Nat.lt_of_lt_of_le (hD0H.out b hb) (by omega), hc.le (by omega), hF⟩
    case round =>
      clear hc hF ho hen
      obtain ⟨es, D, k, c, rfl, hkl, ⟨hk1, hk2, hez⟩, ho, hbl, hc, hF⟩ := hrel
      have hklH := Lib.hid hkl
      have hblH := Lib.hid hbl
      have hk9 : k ≤ 9 := by omega
      have hgr := hc.lt
      have hsr := hF.size
      clear hkl hbl
      by_cases hlt : k < n
      · have hlt2 : (k : Int) < (n : Int) := by omega
        obtain ⟨gd, A1, c1, l1, h1, hD, x0, hr1, hcap1, hlo1, hhi1⟩ := ho.last (by omega)
        subst hD
        obtain ⟨la, hla⟩ : ∃ la, la = (es[k - 1]?.getD []) := ⟨_, rfl⟩
        have hez1 : eszL la ≤ 1000000 := by
          have h2 := hklH.out
          have h3 : k - 1 < es.length := by omega
          have h4 := essz_at es (k - 1) h3
          rw [hla, List.getElem?_eq_getElem h3, Option.getD_some]; omega
        rw [← hla] at x0 hr1 hcap1
        clear hla
        have i0 : (1 : Int) ≤ (k : Int) := by omega
        have i1 : (k : Int) - 1 < (k : Int) := by omega
        have i2 : ((k : Int) - 1).toNat = k - 1 := by omega
        have i3 : IntKind.i64.wrap ((k : Int) - 1) = (k : Int) - 1 := IntWalk.i64_in _ (by omega)
        obtain ⟨v, hv⟩ : ∃ v, logB la = v := ⟨_, rfl⟩
        have hvH := Lib.hid hv
        clear hv
        go_wp2_with fail
        (with_reducible refine (lgGood_k la A1 la.length c1 _ rfl hr1 (by omega) v hvH.out).mono ?_)
        rintro e w5 ⟨rfl, b5⟩
        have s5 : wr.heap.size ≤ w5.heap.size := b5.size
        replace hc := hc.st b5
        replace hF := hF.then_below b5 hF.size
        replace ho := ho.st b5
        replace hr1 := hr1.st b5
        clear b5
        clear i0 i1 i2 i3 x0
        cases v with
        | false =>
          clear hr1
          go_wp2_with fail
          (with_reducible refine (log_any g (N + 2010 + 3000 * k) _ hc (by omega)).mono ?_)
          rintro e w6 ⟨l2, A2, c2, rfl, ⟨hl1, hl2, hl3⟩, hr2, hcn, f6⟩
          clear hc
          have hc := hcn
          clear hcn
          have s6 : w5.heap.size ≤ w6.heap.size := f6.size
          replace hF := hF.trans f6
          replace ho := ho.fr f6 (by omega)
          clear f6
          have ho2 := Lib.hid (ho.alloc (.cells #[.slice A2 l2.length c2] 24))
          have hc2 := Lib.hid (hc.alloc (.cells #[.slice A2 l2.length c2] 24))
          have hF2 := Lib.hid (hF.alloc (.cells #[.slice A2 l2.length c2] 24))
          have hr2 := Lib.hid (hr2.alloc (.cells #[.slice A2 l2.length c2] 24))
          have bS0 : (w6.alloc (.cells #[.slice A2 l2.length c2] 24)).cell? ⟨w6.heap.size, 0, none⟩ = some (.slice A2 l2.length c2) := (Bk.new w6 24 #[.slice A2 l2.length c2]).cell 0
          have bS := Lib.hid bS0
          clear bS0
          have hkl1 : es.length ≤ 1000000 := by have := hklH.out; omega
          have hww : w.heap.size ≤ w6.heap.size + 1 := by omega
          clear ho hc hF 
          go_wp2_with (at_builtin; refine halt ?_)
          refine Halt.in ?_
          (refine wp_append_log (e := l2) rfl (.tmp 40) (.tmp 43) rfl (v := .slice _ k c) (by rfl) ho2.out (by rfl) bS.out hr2.out hl3 (by omega) (by simp) (fun b hb => Nat.lt_of_lt_of_le (hblH.out b hb) (by omega)) hkl1 (by simp; omega) ?_; intro v8 w88 ho8 hb8; (obtain ⟨D8, c8, rfl⟩ := ho8.form); (obtain ⟨k8, hk8⟩ : ∃ k8, k8 = (es ++ [l2]).length := ⟨_, rfl⟩); rw [← hk8] at ho8 ⊢; (have hk8H := Lib.hid hk8); clear hk8)
          have hs8 : w6.heap.size + 1 ≤ w88.heap.size := by have := hb8.size; (try rw [World.size_alloc] at this); exact this
          have hc8 := hc2.out.below hb8 (by omega)
          have hF8 := hF2.out.then_below hb8 (Nat.le_refl _)
          have hk8e : k8 = k + 1 := by have h1 := hk8H.out; have h2 := hklH.out; rw [h1, List.length_append, ← h2]; rfl
          have hez8 : esszL (es ++ [l2]) ≤ 601 * (k + 1) := by rw [essz_append, essz_one]; omega
          have hbl8 : ∀ b, (Value.slice D8 (k + 1) c8).ownBlock = some b → b < w88.heap.size := fun b hb => by obtain ⟨x, rows, h1, _⟩ := ho8; exact (h1.lt b (by rw [hk8e]; exact hb)).2.2
          rw [hk8e] at ho8 ⊢
          have hk8f : k + 1 = (es ++ [l2]).length := by rw [← hk8e]; exact hk8H.out
          have hall := Lib.hid (And.intro hk8f (And.intro ho8 (And.intro hbl8 (And.intro hc8 hF8))))
          clear ho8 hbl8 hc8 hF8 hb8 hk8f hk8H hk8e ho2 hc2 hF2 hr2 bS hl3
          go_wp2_with fail
          go_roundw
          case rel => exact ⟨es ++ [l2], D8, k + 1, c8, rfl, hall.out.1, ⟨by omega, .inr (by omega), hez8⟩, hall.out.2.1, hall.out.2.2.1, hall.out.2.2.2.1.le (by omega), hall.out.2.2.2.2⟩
          case measure => simp; omega
        | true =>
          go_wp2_with fail
          (with_reducible refine (one_any g (N + 2010 + 3000 * k) 24 _ hc (by omega) (by omega)).mono ?_)
          rintro e w7 ⟨v2, rfl, hcn, f7, z7⟩
          clear hc
          have hc := hcn
          clear hcn
          have s7 : w5.heap.size ≤ w7.heap.size := f7.size
          replace hF := hF.trans f7
          replace ho := ho.fr f7 (by omega)
          replace hr1 := hr1.fr f7 (by omega)
          clear f7 z7
          cases v2 with
          | true =>
            clear hr1
            go_wp2_with fail
            (with_reducible refine (log_any g (N + 2010 + 3000 * k + 2) _ hc (by omega)).mono ?_)
            rintro e w8 ⟨l2, A2, c2, rfl, ⟨hl1, hl2, hl3⟩, hr2, hcn, f8⟩
            clear hc
            have hc := hcn
            clear hcn
            have s8 : w7.heap.size ≤ w8.heap.size := f8.size
            replace hF := hF.trans f8
            replace ho := ho.fr f8 (by omega)
            clear f8
            have ho2 := Lib.hid (ho.alloc (.cells #[.slice A2 l2.length c2] 24))
            have hc2 := Lib.hid (hc.alloc (.cells #[.slice A2 l2.length c2] 24))
            have hF2 := Lib.hid (hF.alloc (.cells #[.slice A2 l2.length c2] 24))
            have hr2 := Lib.hid (hr2.alloc (.cells #[.slice A2 l2.length c2] 24))
            have bS0 : (w8.alloc (.cells #[.slice A2 l2.length c2] 24)).cell? ⟨w8.heap.size, 0, none⟩ = some (.slice A2 l2.length c2) := (Bk.new w8 24 #[.slice A2 l2.length c2]).cell 0
            have bS := Lib.hid bS0
            clear bS0
            have hkl1 : es.length ≤ 1000000 := by have := hklH.out; omega
            have hww : w.heap.size ≤ w8.heap.size + 1 := by omega
            clear ho hc hF 
            go_wp2_with (at_builtin; refine halt ?_)
            refine Halt.in ?_
            (refine wp_append_log (e := l2) rfl (.tmp 40) (.tmp 43) rfl (v := .slice _ k c) (by rfl) ho2.out (by rfl) bS.out hr2.out hl3 (by omega) (by simp) (fun b hb => Nat.lt_of_lt_of_le (hblH.out b hb) (by omega)) hkl1 (by simp; omega) ?_; intro v8 w88 ho8 hb8; (obtain ⟨D8, c8, rfl⟩ := ho8.form); (obtain ⟨k8, hk8⟩ : ∃ k8, k8 = (es ++ [l2]).length := ⟨_, rfl⟩); rw [← hk8] at ho8 ⊢; (have hk8H := Lib.hid hk8); clear hk8)
            have hs8 : w8.heap.size + 1 ≤ w88.heap.size := by have := hb8.size; (try rw [World.size_alloc] at this); exact this
            have hc8 := hc2.out.below hb8 (by omega)
            have hF8 := hF2.out.then_below hb8 (Nat.le_refl _)
            have hk8e : k8 = k + 1 := by have h1 := hk8H.out; have h2 := hklH.out; rw [h1, List.length_append, ← h2]; rfl
            have hez8 : esszL (es ++ [l2]) ≤ 601 * (k + 1) := by rw [essz_append, essz_one]; omega
            have hbl8 : ∀ b, (Value.slice D8 (k + 1) c8).ownBlock = some b → b < w88.heap.size := fun b hb => by obtain ⟨x, rows, h1, _⟩ := ho8; exact (h1.lt b (by rw [hk8e]; exact hb)).2.2
            rw [hk8e] at ho8 ⊢
            have hk8f : k + 1 = (es ++ [l2]).length := by rw [← hk8e]; exact hk8H.out
            have hall := Lib.hid (And.intro hk8f (And.intro ho8 (And.intro hbl8 (And.intro hc8 hF8))))
            clear ho8 hbl8 hc8 hF8 hb8 hk8f hk8H hk8e ho2 hc2 hF2 hr2 bS hl3
            go_wp2_with fail
            go_roundw
            case rel => exact ⟨es ++ [l2], D8, k + 1, c8, rfl, hall.out.1, ⟨by omega, .inr (by omega), hez8⟩, hall.out.2.1, hall.out.2.2.1, hall.out.2.2.2.1.le (by omega), hall.out.2.2.2.2⟩
            case measure => simp; omega
          | false =>
            go_wp2_with fail
            (with_reducible refine (passedOn_any g (N + 2010 + 3000 * k + 2) la A1 c1 _ hc (by omega) hr1 (by omega) hvH.out).mono ?_)
            rintro e w9 ⟨l2, A2, c2, rfl, ⟨hl1, hl2, hl3⟩, hr2, hcn, f9⟩
            clear hc
            have hc := hcn
            clear hcn
            have s9 : w7.heap.size ≤ w9.heap.size := f9.size
            replace hF := hF.trans f9
            replace ho := ho.fr f9 (by omega)
            replace hr1 := hr1.fr f9 (by omega)
            clear f9
            have ho2 := Lib.hid (ho.alloc (.cells #[.slice A2 l2.length c2] 24))
            have hc2 := Lib.hid (hc.alloc (.cells #[.slice A2 l2.length c2] 24))
            have hF2 := Lib.hid (hF.alloc (.cells #[.slice A2 l2.length c2] 24))
            have hr2 := Lib.hid (hr2.alloc (.cells #[.slice A2 l2.length c2] 24))
            have bS0 : (w9.alloc (.cells #[.slice A2 l2.length c2] 24)).cell? ⟨w9.heap.size, 0, none⟩ = some (.slice A2 l2.length c2) := (Bk.new w9 24 #[.slice A2 l2.length c2]).cell 0
            have bS := Lib.hid bS0
            clear bS0
            have hkl1 : es.length ≤ 1000000 := by have := hklH.out; omega
            have hww : w.heap.size ≤ w9.heap.size + 1 := by omega
            clear ho hc hF hr1
            go_wp2_with (at_builtin; refine halt ?_)
            refine Halt.in ?_
            (refine wp_append_log (e := l2) rfl (.tmp 34) (.tmp 38) rfl (v := .slice _ k c) (by rfl) ho2.out (by rfl) bS.out hr2.out hl3 (by omega) (by simp) (fun b hb => Nat.lt_of_lt_of_le (hblH.out b hb) (by omega)) hkl1 (by simp; omega) ?_; intro v8 w88 ho8 hb8; (obtain ⟨D8, c8, rfl⟩ := ho8.form); (obtain ⟨k8, hk8⟩ : ∃ k8, k8 = (es ++ [l2]).length := ⟨_, rfl⟩); rw [← hk8] at ho8 ⊢; (have hk8H := Lib.hid hk8); clear hk8)
            have hs8 : w9.heap.size + 1 ≤ w88.heap.size := by have := hb8.size; (try rw [World.size_alloc] at this); exact this
            have hc8 := hc2.out.below hb8 (by omega)
            have hF8 := hF2.out.then_below hb8 (Nat.le_refl _)
            have hk8e : k8 = k + 1 := by have h1 := hk8H.out; have h2 := hklH.out; rw [h1, List.length_append, ← h2]; rfl
            have hez8 : esszL (es ++ [l2]) ≤ 601 * (k + 1) := by rw [essz_append, essz_one]; omega
            have hbl8 : ∀ b, (Value.slice D8 (k + 1) c8).ownBlock = some b → b < w88.heap.size := fun b hb => by obtain ⟨x, rows, h1, _⟩ := ho8; exact (h1.lt b (by rw [hk8e]; exact hb)).2.2
            rw [hk8e] at ho8 ⊢
            have hk8f : k + 1 = (es ++ [l2]).length := by rw [← hk8e]; exact hk8H.out
            have hall := Lib.hid (And.intro hk8f (And.intro ho8 (And.intro hbl8 (And.intro hc8 hF8))))
            clear ho8 hbl8 hc8 hF8 hb8 hk8f hk8H hk8e ho2 hc2 hF2 hr2 bS hl3
            go_wp2_with fail
            go_roundw
            case rel => exact ⟨es ++ [l2], D8, k + 1, c8, rfl, hall.out.1, ⟨by omega, .inr (by omega), hez8⟩, hall.out.2.1, hall.out.2.2.1, hall.out.2.2.2.1.le (by omega), hall.out.2.2.2.2⟩
            case measure => simp; omega
      · have hlt2 : ¬ ((k : Int) < (n : Int)) := by omega
        obtain ⟨wm, rfl⟩ : ∃ u, u = wr := ⟨_, rfl⟩
        go_wp2_with fail
        (with_reducible refine (one_any g (N + 2010 + 3000 * k) 24 _ hc (by omega) (by omega)).mono ?_)
        rintro e w10 ⟨v, rfl, hcn, f10, z10⟩
        clear hc
        have hc := hcn
        clear hcn
        have s10 : wm.heap.size ≤ w10.heap.size := f10.size
        replace hF := hF.trans f10
        replace ho := ho.fr f10 (by omega)
        clear f10 z10
        cases v with
        | true =>
          have hall := Lib.hid (And.intro hc hF)
          clear ho hc hF
          go_wp2_with fail
          go_ret
          exact ⟨[], none, 0, rfl, ⟨by simp, by simp [esszL], by simp⟩, RdEE.nil, hall.out.1.le (by omega), hall.out.2⟩
        | false =>
          have hrd := ho.rd
          have hall := Lib.hid (And.intro hrd (And.intro hc hF))
          clear ho hc hF hrd
          go_wp2_with fail
          go_ret
          have hkl := hklH.out
          exact ⟨es, D, c, by rw [← hkl]; rfl, ⟨by omega, by omega, by rw [← hkl]; exact hall.out.1.2.2⟩, hall.out.1.1, hall.out.2.1.le (by omega), hall.out.2.2⟩
set_option maxRecDepth 100000 in
set_option maxHeartbeats 8000000 in
theorem loggedPart_any (g N : Nat) (es : List (List Ent)) (A : Option Addr) (ca : Nat) {la ha : Nat} (w : World) (hc : Cur w g N) (hN : N ≤ 4611686018420000000) (hl0 : RdEE w la ha A es) (hd : g < la) (hez : esszL es ≤ 1048576) :
    Calls Try.prog 56 #[.pointer (some ⟨g, 0, none⟩), .slice A es.length ca] w fun e w' => ∃ m q : Int, e = .returned (.tuple #[.int .i64 m, .int .i64 q]) ∧ Cur w' g (N + 4000000) ∧ Fr g (g + 1) w w' := by
  have hesn := essz_len es
  have hgl := hc.lt
  have hF := Fr.refl g (g + 1) w
  go_enter Try.func56, Try.ntmps56
  go_wp2_with fail
  go_loopw [11] (fun i wr => ∃ j : Nat, i = .int .i64 (j : Int) ∧ j ≤ es.length ∧ Cur wr g (N + 2 * j) ∧ Fr g (g + 1) w wr) (fun i _ => es.length - (intOf i).toNat)
  case atStart => exact ⟨0, rfl, Nat.zero_le _, hc, hF⟩
  case round =>
    clear hc hF
    obtain ⟨j, rfl, hj, hc, hF⟩ := hrel
    have hgr := hc.lt
    have hsr := hF.size
    by_cases hlt : j < es.length
    · obtain ⟨b0, off, hA, _, _, hcl⟩ := (hl0.fr hF (by omega)) (by omega)
      obtain ⟨A1, c1, x0, rb, hcap⟩ := hcl j hlt
      have hej := essz_at es j hlt
      have hel := esz_len es[j]
      have i0 : (0 : Int) ≤ (j : Int) := by omega
      have i1 : (j : Int) < (es.length : Int) := by omega
      subst hA
      clear hcl
      obtain ⟨ej, hejq⟩ : ∃ ej, ej = es[j] := ⟨_, rfl⟩
      rw [← hejq] at x0 rb hcap hej hel
      clear hejq
      by_cases he0 : 0 < ej.length
      · have he1 : (0 : Int) < (ej.length : Int) := by omega
        go_wp2_with fail
        (with_reducible refine (one_any g (N + 2 * j) 3 _ hc (by omega) (by omega)).mono ?_)
        rintro e w1 ⟨v, rfl, hcn, f1, z1⟩
        clear hc
        have hc := hcn
        clear hcn
        have s1 : wr.heap.size ≤ w1.heap.size := f1.size
        replace hF := hF.trans f1
        replace rb := rb.fr f1 (by omega)
        clear f1 z1
        cases v with
        | true =>
          have hall := Lib.hid (And.intro hc hF)
          clear hc hF rb
          go_wp2_with fail
          go_roundw
          case rel => exact ⟨j + 1, by go_num, by omega, hall.out.1.le (by omega), hall.out.2⟩
          case measure => simp [intOf]; omega
        | false =>
          obtain ⟨bb, of2, hA1, _, _, hcl⟩ := rb he0
          subst hA1
          clear hcl
          go_wp2_with fail
          (with_reducible refine (pick_any g (N + 2 * j + 2) (ej.length : Int) _ hc (by omega) (by omega)).mono ?_)
          rintro e w2 ⟨x, rfl, hx, hcn, f2, z2⟩
          clear hc
          have hc := hcn
          clear hcn
          have s2 : w1.heap.size ≤ w2.heap.size := f2.size
          replace hF := hF.trans f2
          replace rb := rb.fr f2 (by omega)
          clear f2 z2
          obtain ⟨i, rfl⟩ : ∃ i : Nat, x = (i : Int) := ⟨x.toNat, by omega⟩
          have hi : i < ej.length := by omega
          clear hx
          obtain ⟨b2, of3, hA3, _, _, hcl⟩ := rb he0
          injection hA3 with hA3
          injection hA3 with hA4 hA5
          subst hA4 hA5
          obtain ⟨A3, c3, A4, c4, y0, y1, y2, y3, y4, -, -⟩ := hcl i hi
          clear hcl
          have j0 : (0 : Int) ≤ (i : Int) := by omega
          have j1 : (i : Int) < (ej.length : Int) := by omega
          obtain ⟨ei, hei⟩ : ∃ ei, ei = ej[i] := ⟨_, rfl⟩
          rw [← hei] at y0 y1 y2 y3 y4
          clear hei rb
          have bE := Bk.new w2 49 #[.int .i64 ei.time, .int .i64 ei.msg, .int .i64 ei.part, .slice A3 ei.seen.length c3, .slice A4 ei.shown.length c4]
          have z1 := bE.cell 1
          have z2 := bE.cell 2
          simp at z1 z2
          have hc2 := Lib.hid (hc.alloc (.cells #[.int .i64 ei.time, .int .i64 ei.msg, .int .i64 ei.part, .slice A3 ei.seen.length c3, .slice A4 ei.shown.length c4] 49))
          have hF2 := Lib.hid (hF.alloc (.cells #[.int .i64 ei.time, .int .i64 ei.msg, .int .i64 ei.part, .slice A3 ei.seen.length c3, .slice A4 ei.shown.length c4] 49))
          clear hc hF bE
          go_wp2_with fail
          go_quiet (fail)
          go_wp2_with fail
          go_ret2
          exact ⟨_, _, rfl, (hc2.out.drewN nq).le (by omega), hF2.out.drewN nq⟩
      · have he1 : ¬ ((0 : Int) < (ej.length : Int)) := by omega
        have hall := Lib.hid (And.intro hc hF)
        clear hc hF rb
        go_wp2_with fail
        go_roundw
        case rel => exact ⟨j + 1, by go_num, by omega, hall.out.1.le (by omega), hall.out.2⟩
        case measure => simp [intOf]; omega
    · have hlt2 : ¬ ((j : Int) < (es.length : Int)) := by omega
      have hj10 : j ≤ 1048576 := by omega
      obtain ⟨wm, rfl⟩ : ∃ u, u = wr := ⟨_, rfl⟩
      go_wp2_with fail
      obtain ⟨w3, hw3⟩ : ∃ u, u = wm.alloc (.cells #[.int .i64 0, .int .i64 1000] 3) := ⟨_, rfl⟩
      rw [← hw3]
      have e3 : w3.heap.size = wm.heap.size + 1 := by rw [hw3]; simp
      have s3 : wm.heap.size + 1 ≤ w3.heap.size := by omega
      have b3 : Below wm.heap.size wm w3 := by rw [hw3]; exact (Below.refl _ _).alloc (Nat.le_refl _) _
      have r3 : Rd w3 (wm.heap.size) (wm.heap.size + 1) (some ⟨wm.heap.size, 0, none⟩) [0, 1000] := by rw [hw3]; exact Rd.one _ _ _ _ rfl
      replace hc := hc.st b3
      replace hF := hF.then_below b3 hF.size
      replace e3 := Lib.hid e3
      clear b3 hw3
      (with_reducible refine (among_any g (N + 2 * j) [0, 1000] _ 2 _ _ hc (by omega) r3 rfl (by simp) (by simp) (by omega)).mono ?_)
      rintro e w4 ⟨x1, rfl, hx1, hcn, f4, z4⟩
      clear hc
      have hc := hcn
      clear hcn
      have s4 : w3.heap.size ≤ w4.heap.size := f4.size
      replace hF := hF.trans f4
      replace r3 := r3.fr f4 (by omega)
      clear f4 z4
      clear hx1
      clear r3
      go_wp2_with fail
      obtain ⟨w5, hw5⟩ : ∃ u, u = w4.alloc (.cells #[.int .i64 1, .int .i64 12, .int .i64 999, .int .i64 x1] 3) := ⟨_, rfl⟩
      rw [← hw5]
      have e5 : w5.heap.size = w4.heap.size + 1 := by rw [hw5]; simp
      have s5 : w4.heap.size + 1 ≤ w5.heap.size := by omega
      have b5 : Below w4.heap.size w4 w5 := by rw [hw5]; exact (Below.refl _ _).alloc (Nat.le_refl _) _
      have r5 : Rd w5 (w4.heap.size) (w4.heap.size + 1) (some ⟨w4.heap.size, 0, none⟩) [1, 12, 999, x1] := by rw [hw5]; exact Rd.one _ _ _ _ rfl
      replace hF := hF.then_below b5 hF.size
      replace hc := hc.st b5
      replace e5 := Lib.hid e5
      clear b5 hw5
      (with_reducible refine (among_any g (N + 2 * j + 2) [1, 12, 999, x1] _ 4 _ _ hc (by omega) r5 rfl (by simp) (by simp) (by omega)).mono ?_)
      rintro e w6 ⟨x2, rfl, hx2, hcn, f6, z6⟩
      clear hc
      have hc := hcn
      clear hcn
      have s6 : w5.heap.size ≤ w6.heap.size := f6.size
      replace hF := hF.trans f6
      replace r5 := r5.fr f6 (by omega)
      clear f6 z6
      clear hx2
      clear r5
      go_wp2_with fail
      obtain ⟨w7, hw7⟩ : ∃ u, u = w6.alloc (.cells #[.int .i64 9, .int .i64 (-1)] 3) := ⟨_, rfl⟩
      rw [← hw7]
      have e7 : w7.heap.size = w6.heap.size + 1 := by rw [hw7]; simp
      have s7 : w6.heap.size + 1 ≤ w7.heap.size := by omega
      have b7 : Below w6.heap.size w6 w7 := by rw [hw7]; exact (Below.refl _ _).alloc (Nat.le_refl _) _
      have r7 : Rd w7 (w6.heap.size) (w6.heap.size + 1) (some ⟨w6.heap.size, 0, none⟩) [9, -1] := by rw [hw7]; exact Rd.one _ _ _ _ rfl
      replace hF := hF.then_below b7 hF.size
      replace hc := hc.st b7
      replace e7 := Lib.hid e7
      clear b7 hw7
      (with_reducible refine (among_any g (N + 2 * j + 4) [9, -1] _ 2 _ _ hc (by omega) r7 rfl (by simp) (by simp) (by omega)).mono ?_)
      rintro e w8 ⟨x3, rfl, hx3, hcn, f8, z8⟩
      clear hc
      have hc := hcn
      clear hcn
      have s8 : w7.heap.size ≤ w8.heap.size := f8.size
      replace hF := hF.trans f8
      replace r7 := r7.fr f8 (by omega)
      clear f8 z8
      clear hx3
      clear r7
      go_wp2_with fail
      obtain ⟨w9, hw9⟩ : ∃ u, u = w8.alloc (.cells #[.int .i64 0, .int .i64 1, .int .i64 8, .int .i64 x3] 3) := ⟨_, rfl⟩
      rw [← hw9]
      have e9 : w9.heap.size = w8.heap.size + 1 := by rw [hw9]; simp
      have s9 : w8.heap.size + 1 ≤ w9.heap.size := by omega
      have b9 : Below w8.heap.size w8 w9 := by rw [hw9]; exact (Below.refl _ _).alloc (Nat.le_refl _) _
      have r9 : Rd w9 (w8.heap.size) (w8.heap.size + 1) (some ⟨w8.heap.size, 0, none⟩) [0, 1, 8, x3] := by rw [hw9]; exact Rd.one _ _ _ _ rfl
      replace hF := hF.then_below b9 hF.size
      replace hc := hc.st b9
      replace e9 := Lib.hid e9
      clear b9 hw9
      (with_reducible refine (among_any g (N + 2 * j + 6) [0, 1, 8, x3] _ 4 _ _ hc (by omega) r9 rfl (by simp) (by simp) (by omega)).mono ?_)
      rintro e w10 ⟨x4, rfl, hx4, hcn, f10, z10⟩
      clear hc
      have hc := hcn
      clear hcn
      have s10 : w9.heap.size ≤ w10.heap.size := f10.size
      replace hF := hF.trans f10
      replace r9 := r9.fr f10 (by omega)
      clear f10 z10
      clear hx4
      clear r9
      have hall := Lib.hid (And.intro hc hF)
      clear hc hF
      go_wp2_with fail
      go_ret2
      exact ⟨_, _, rfl, hall.out.1.le (by omega), hall.out.2⟩
set_option maxRecDepth 100000 in
set_option maxHeartbeats 4000000 in
theorem drawTraceOf_any (A0 : Option Addr) (n c0 : Nat) (w : World) (hcd : CodeAt w w.heap.size A0 n) (hn : n ≤ 9223372036854775807) (hnc : n ≤ c0) :
    Calls Try.prog 13 #[.slice A0 n c0] w fun e w' => ∃ (es : List (List Ent)) (A : Option Addr) (c : Nat) (m q : Int), e = .returned (.tuple #[.slice A es.length c, .int .i64 m, .int .i64 q]) ∧ (es.length ≤ 10 ∧ esszL es ≤ 8000 ∧ es.length ≤ c) ∧ RdEE w' w.heap.size w'.heap.size A es ∧ Below w.heap.size w w' := by
  go_enter Try.func13, Try.ntmps13
  go_wp2_with fail
  obtain ⟨w1, hw1⟩ : ∃ u, u = w.alloc (.cells #[.slice A0 n c0, .int .i64 0, .int .u64 0] 84) := ⟨_, rfl⟩
  rw [← hw1]
  have e1 : w1.heap.size = w.heap.size + 1 := by rw [hw1]; simp
  have s1 : w.heap.size + 1 ≤ w1.heap.size := by omega
  have b1 : Below w.heap.size w w1 := by rw [hw1]; exact (Below.refl _ _).alloc (Nat.le_refl _) _
  have hc : Cur w1 w.heap.size 0 := by rw [hw1]; exact Cur.fresh hcd hn hnc
  have hF := Fr.refl w.heap.size (w.heap.size + 1) w1
  clear hw1
  (with_reducible refine (lineLogs_any w.heap.size 0 _ hc (by omega)).mono ?_)
  rintro e w2 ⟨es, A, c, rfl, hb, hr, hcn, f2⟩
  clear hc
  have hc := hcn
  clear hcn
  have s2 : w1.heap.size ≤ w2.heap.size := f2.size
  replace hF := hF.trans f2
  clear f2
  go_wp2_with fail
  (with_reducible refine (loggedPart_any w.heap.size (0 + 40000) es A c _ hc (by omega) hr (by omega) (by omega)).mono ?_)
  rintro e w3 ⟨m, q, rfl, hcn, f3⟩
  clear hc
  have hc := hcn
  clear hcn
  have s3 : w2.heap.size ≤ w3.heap.size := f3.size
  replace hF := hF.trans f3
  replace hr := hr.fr f3 (by omega)
  clear f3
  have hB := Lib.hid (b1.trans (hF.below (B := w.heap.size) (Nat.le_refl _) (by omega)))
  have hrH := Lib.hid (hr.mono (show w.heap.size ≤ _ by omega) (show _ ≤ w3.heap.size by omega))
  clear hc hF hr
  go_wp2_with fail
  go_ret3
  exact ⟨es, A, c, m, q, rfl, hb, hrH.out, hB.out⟩
end Go.Proofs.Yteajjbfecpffeaa
