/-
  Contracts and plain laws that the walk uses, several texts in one. The conditions are named ahead of each.
-/
import Derived.Test.YtjhbffndiaggmaaGreatDoorZLStabW
import Derived.Test.YtjhbffndiaggmaaGreatDoorBL4
import Derived.Shelf.SlSortCmp.QuietGrown
import Derived.Deep.DeepCutAuto
import Derived.Deep.CutBlock

/-
  The library's symmetric merge at entries, from a world of the sort's to a world of the sort's. The conditions are index bounds.
-/
namespace Go.Proofs.YtjhbffndiaggmaaGreatDoor
open Go.RowKit Go.ChangeShapes Go.WideShapes Go.Sort
set_option linter.unusedVariables false
set_option linter.unusedSimpArgs false

set_option maxRecDepth 1000000 in
set_option maxHeartbeats 8000000 in
theorem symMerge_one {P : Program} {kE : Nat} (L : SortP P kE) (FG : P.funcs[198]? = some Tryz.f198) (enc : RowT → List Value) (cf : RowT → RowT → Int) (hO : SWO (ltOf cf)) (g : Nat) (eg : ∀ args w, (callFunc g args).run P w = .ok (.enter g args) w) (blk off cap a m b sz : Nat) (d0 d : Array RowT) (w0 w : World) (hcmp : CmpLays P g #[] enc kE cf blk off d0.size w0) (R : RowK enc kE w0 blk off d0) (hz : sz = d.size) (hs : d.size = d0.size) (S : SWK enc kE w0 blk off d w) (ham : a < m) (hmb : m < b) (hb : b ≤ d.size) (hsz : d.size ≤ 1099511627776) (o1 : Ord (ltOf cf) RowT.tag a m d) (o2 : Ord (ltOf cf) RowT.tag m b d) (o3 : Sep RowT.tag a m b d) (h1 : m = a + 1) :
    Calls P 198 #[.slice (some ⟨blk, off, none⟩) sz cap, .int .i64 a, .int .i64 m, .int .i64 b, .func (.func g) #[] #[]] w fun e w' => e = .returned (.tuple #[]) ∧ ∃ d', PermIn a b d d' ∧ Ord (ltOf cf) RowT.tag a b d' ∧ SWK enc kE w0 blk off d' w' := by
  have mixed := L.mixed
  have aE := L.aE
  have zE := L.zE
  have tI := L.tI
  have aI := L.aI
  have zI := L.zI
  have tB := L.tB
  have aB := L.aB
  have zB := L.zB
  have tS := L.tS
  have aS := L.aS
  have zS := L.zS
  have tF := L.tF
  have aF := L.aF
  have zF := L.zF
  have tU := L.tU
  have aU := L.aU
  have zU := L.zU
  have e1 : ((m : Int) - (a : Int) == 1) = true := by simp; omega
  have h1H := Lib.hid h1
  have h1a : m ≤ a + 1 := by omega
  clear h1
  have S0 : Hid (SWK enc kE w0 blk off d w) := S
  have hzH := Lib.hid hz
  have hsH := Lib.hid hs
  have hsd : d.size ≤ 1099511627776 := hsz
  have hs1 : d.size ≤ sz := by omega
  have hs2 : sz ≤ d.size := by omega
  have hO1 := Lib.hid o1
  have hO2 := Lib.hid o2
  have hO3 := Lib.hid o3
  have hC : Hid (CmpLays P g #[] enc kE cf blk off d0.size w0) := hcmp
  clear S hs hz o1 o2 o3 hcmp
  go_enter FG, Tryz.ntmps198
  go_wp2_with fail
  clear e1
  go_loopw [10, 11] (fun s t wr => ∃ (i j : Nat), s = .int .i64 (i : Int) ∧ t = .int .i64 (j : Int) ∧ (m ≤ i ∧ i ≤ j ∧ j ≤ b) ∧ Hid (∀ t, m ≤ t → t < i → ltOf cf d[t]! d[a]! = true) ∧ Hid (∀ t, j ≤ t → t < b → ltOf cf d[t]! d[a]! = false) ∧ Hid (SWK enc kE w0 blk off d wr)) (fun s t _ => (intOf t).toNat - (intOf s).toNat)
  case atStart => exact ⟨m, b, rfl, rfl, ⟨Nat.le_refl _, by omega, Nat.le_refl _⟩, Lib.hid (fun t h1 h2 => by omega), Lib.hid (fun t h1 h2 => by omega), S0⟩
  case round =>
    as_aux_lemma =>
      clear S0
      obtain ⟨i, j, rfl, rfl, ⟨hi1, hi2, hj1⟩, hlo, hhi, hS⟩ := hrel
      by_cases hlt : i < j
      · have hlt2 : (i : Int) < (j : Int) := by omega
        obtain ⟨h, hq⟩ : ∃ h, h = (i + j) / 2 := ⟨_, rfl⟩
        have h1 : i ≤ h := by omega
        have h2 : h < j := by omega
        have h3 : 2 * h ≤ i + j := by omega
        have h4 : i + j ≤ 2 * h + 1 := by omega
        have he : (((i : Nat) : Int) + ((j : Nat) : Int)) / 2 = ((h : Nat) : Int) := by omega
        have hu : IntKind.u64.wrap ((i : Int) + (j : Int)) = (i : Int) + (j : Int) := IntWalk.u64_in _ (by omega)
        have hv : IntKind.i64.wrap ((h : Nat) : Int) = ((h : Nat) : Int) := IntWalk.i64_in _ (by omega)
        clear hq
        have lu := hS.out.ld R hsH.out P (h) (by omega)
        have lv := hS.out.ld R hsH.out P (a) (by omega)
        have hcg := hS.out.cmp hC.out hsH.out d[h]! d[a]!
        obtain ⟨xu, hxu⟩ : ∃ x, x = d[h]! := ⟨_, rfl⟩
        obtain ⟨xv, hxv⟩ : ∃ x, x = d[a]! := ⟨_, rfl⟩
        rw [← hxu] at lu hcg
        rw [← hxv] at lv hcg
        have hxuH := Lib.hid hxu
        have hxvH := Lib.hid hxv
        clear hxu hxv
        have p0 : (0 : Int) ≤ (h : Int) := by omega
        have p1 : (h : Int) < (sz : Int) := by omega
        have p2 : (0 : Int) ≤ (a : Int) := by omega
        have p3 : (a : Int) < (sz : Int) := by omega
        by_cases hlv : cf xu xv < 0
        · go_wp2_with fail
          go_quiet_grown (first | (go_at_fn g; refine Calls.grown_of (hcg _ _)))
          have HS2 : Hid (SWK enc kE w0 blk off d (grow (wr.drewN nq) osq)) := Lib.hid (hS.out.grown nq osq)
          have hlth : ltOf cf d[h]! d[a]! = true := by rw [← hxuH.out, ← hxvH.out]; exact decide_eq_true hlv
          have hltH := Lib.hid hlth
          clear lu lv hcg hlth hS
          generalize grow (wr.drewN nq) osq = w2 at HS2 ⊢
          clear he hu hv 
          go_wp2_with fail
          skip
          go_roundw
          case rel => exact ⟨h + 1, j, by first | rfl | go_num | (congr 1; omega), rfl, ⟨by omega, by omega, hj1⟩, Lib.hid (fun t t1 t2 => by
            by_cases e : t < i
            · exact hlo.out t t1 e
            · rcases hO2.out.le (i := t) (j := h) t1 (by omega) (by omega) with e2 | e2
              · rw [e2]; exact hltH.out
              · exact bef_lt hO e2 hltH.out), hhi, HS2⟩
          case measure => simp [intOf]; omega
        · go_wp2_with fail
          go_quiet_grown (first | (go_at_fn g; refine Calls.grown_of (hcg _ _)))
          have HS2 : Hid (SWK enc kE w0 blk off d (grow (wr.drewN nq) osq)) := Lib.hid (hS.out.grown nq osq)
          have hlth : ltOf cf d[h]! d[a]! = false := by rw [← hxuH.out, ← hxvH.out]; exact decide_eq_false (by omega)
          have hltH := Lib.hid hlth
          clear lu lv hcg hlth hS
          generalize grow (wr.drewN nq) osq = w2 at HS2 ⊢
          clear he hu hv 
          go_wp2_with fail
          skip
          go_roundw
          case rel => exact ⟨i, h, rfl, rfl, ⟨hi1, by omega, by omega⟩, hlo, Lib.hid (fun t t1 t2 => by
            by_cases e : j ≤ t
            · exact hhi.out t e t2
            · rcases hO2.out.le (i := h) (j := t) (by omega) t1 t2 with e2 | e2
              · rw [← e2]; exact hltH.out
              · exact bef_nlt hO e2 hltH.out), HS2⟩
          case measure => simp [intOf]; omega
      · obtain rfl : i = j := by omega
        have hlt2 : ¬ ((i : Int) < (i : Int)) := by omega
        obtain ⟨wm, rfl⟩ : ∃ u, u = wr := ⟨_, rfl⟩
        go_wp2_with fail
        go_loopw [13] (fun s wr => ∃ (k : Nat) (dk : Array RowT), s = .int .i64 (k : Int) ∧ (a ≤ k ∧ k + 1 ≤ i) ∧ Hid (dk.size = d.size) ∧ Hid (Rot a (a + 1) (k + 1) d dk) ∧ Hid (PermIn a b d dk) ∧ Hid (SWK enc kE w0 blk off dk wr)) (fun s _ => i - (intOf s).toNat)
        case atStart => exact ⟨a, d, rfl, ⟨Nat.le_refl _, by omega⟩, Lib.hid rfl, Lib.hid (Rot.right_nil a (a + 1) d), Lib.hid (permIn_refl d a b), hS⟩
        case round =>
          as_aux_lemma =>
            clear hS
            obtain ⟨k, dk, rfl, ⟨hk1, hk2⟩, hdk, hR, hP, hS⟩ := hrel
            by_cases hlt3 : k + 1 < i
            · have hlt4 : (k : Int) < (i : Int) - 1 := by omega
              have hdk1 : dk.size ≤ d.size := by have := hdk.out; omega
              have hdk2 : d.size ≤ dk.size := by have := hdk.out; omega
              have hdk0 : dk.size = d0.size := hdk.out.trans hsH.out
              have hdk0H := Lib.hid hdk0
              have hix : k < dk.size := by omega
              have hiy : k + 1 < dk.size := by omega
              have S2 : Hid (SWK enc kE w0 blk off (swp dk (k) (k + 1)) ((wr.drew.setCells blk (off + (k) * kE) (enc dk[k + 1]!)).setCells blk (off + (k + 1) * kE) (enc dk[k]!))) := hS.out.swapped R (k) (k + 1) hix hiy
              have l44a := hS.out.ld1 R hdk0H.out P (k) hix
              have l44b := hS.out.ld1 R hdk0H.out P (k + 1) hiy
              have s44a := hS.out.st1 R hdk0H.out P (k) hix dk[k + 1]!
              have s44b := hS.out.st2 R hdk0H.out P (k) (k + 1) hix hiy dk[k + 1]! dk[k]!
              have n44a : (enc dk[k]!).length = kE := R.hk _
              have n44b : (enc dk[k + 1]!).length = kE := R.hk _
              generalize enc dk[k]! = cI44 at S2 l44a s44b n44a
              generalize enc dk[k + 1]! = cJ44 at S2 l44b s44a s44b n44b
              have i0 : (0 : Int) ≤ (k : Int) := by omega
              have i1 : (k : Int) < (sz : Int) := by omega
              have j0 : (0 : Int) ≤ (k : Int) + 1 := by omega
              have j1 : (k : Int) + 1 < (sz : Int) := by omega
              have j2 : ((k : Int) + 1).toNat = k + 1 := by omega
              have j3 : IntKind.i64.wrap ((k : Int) + 1) = (k : Int) + 1 := IntWalk.i64_in _ (by omega)
              clear hS hdk0
              go_wp2_with fail
              go_big_region_o
              clear l44a l44b s44a s44b
              generalize (wr.drew.setCells blk (off + (k) * kE) cJ44).setCells blk (off + (k + 1) * kE) cI44 = w2 at S2 ⊢
              clear j3
              go_wp2_with fail
              go_roundw
              case rel => exact ⟨k + 1, swp dk k (k + 1), by first | rfl | go_num | (congr 1; omega), ⟨by omega, by omega⟩, Lib.hid (by rw [swp_size]; exact hdk.out), Lib.hid (hR.out.carry hk1 (by omega)), Lib.hid (permIn_trans _ _ _ _ _ hP.out (swp_permIn dk a b k (k + 1) (by omega) (by omega) (by omega) (by omega) (by omega))), S2⟩
              case measure => simp [intOf]; omega
            · have hlt4 : ¬ ((k : Int) < (i : Int) - 1) := by omega
              obtain rfl : i = k + 1 := by omega
              have hall := Lib.hid (And.intro hP.out (And.intro (show Ord (ltOf cf) RowT.tag a b dk from by
                have hm := h1H.out
                exact Rot.insL hO hR.out (by rw [← hm]; exact hO2.out) (by omega) (by omega) (fun t t1 t2 => bef_yes (hlo.out t (by omega) t2)) (fun t t1 t2 => bef_no (hO3.out a t (Nat.le_refl _) ham (by omega) t2) (hhi.out t t1 t2))) hS.out))
              clear hP hR hS
              go_wp2_with fail
              (try simp only [Exit.inBlock, Exit.then])
              refine bodyPost_ret (results_none rfl _ _ _) rfl ?_
              exact ⟨rfl, dk, hall.out⟩
set_option maxRecDepth 1000000 in
set_option maxHeartbeats 8000000 in
theorem symMerge_last {P : Program} {kE : Nat} (L : SortP P kE) (FG : P.funcs[198]? = some Tryz.f198) (enc : RowT → List Value) (cf : RowT → RowT → Int) (hO : SWO (ltOf cf)) (g : Nat) (eg : ∀ args w, (callFunc g args).run P w = .ok (.enter g args) w) (blk off cap a m b sz : Nat) (d0 d : Array RowT) (w0 w : World) (hcmp : CmpLays P g #[] enc kE cf blk off d0.size w0) (R : RowK enc kE w0 blk off d0) (hz : sz = d.size) (hs : d.size = d0.size) (S : SWK enc kE w0 blk off d w) (ham : a < m) (hmb : m < b) (hb : b ≤ d.size) (hsz : d.size ≤ 1099511627776) (o1 : Ord (ltOf cf) RowT.tag a m d) (o2 : Ord (ltOf cf) RowT.tag m b d) (o3 : Sep RowT.tag a m b d) (h0 : ¬ m = a + 1) (h1 : b = m + 1) :
    Calls P 198 #[.slice (some ⟨blk, off, none⟩) sz cap, .int .i64 a, .int .i64 m, .int .i64 b, .func (.func g) #[] #[]] w fun e w' => e = .returned (.tuple #[]) ∧ ∃ d', PermIn a b d d' ∧ Ord (ltOf cf) RowT.tag a b d' ∧ SWK enc kE w0 blk off d' w' := by
  have mixed := L.mixed
  have aE := L.aE
  have zE := L.zE
  have tI := L.tI
  have aI := L.aI
  have zI := L.zI
  have tB := L.tB
  have aB := L.aB
  have zB := L.zB
  have tS := L.tS
  have aS := L.aS
  have zS := L.zS
  have tF := L.tF
  have aF := L.aF
  have zF := L.zF
  have tU := L.tU
  have aU := L.aU
  have zU := L.zU
  have e0 : ((m : Int) - (a : Int) == 1) = false := by simp; omega
  have e1 : ((b : Int) - (m : Int) == 1) = true := by simp; omega
  have h1H := Lib.hid h1
  have h1a : b ≤ m + 1 := by omega
  clear h1
  have S0 : Hid (SWK enc kE w0 blk off d w) := S
  have hzH := Lib.hid hz
  have hsH := Lib.hid hs
  have hsd : d.size ≤ 1099511627776 := hsz
  have hs1 : d.size ≤ sz := by omega
  have hs2 : sz ≤ d.size := by omega
  have hO1 := Lib.hid o1
  have hO2 := Lib.hid o2
  have hO3 := Lib.hid o3
  have hC : Hid (CmpLays P g #[] enc kE cf blk off d0.size w0) := hcmp
  clear S hs hz o1 o2 o3 hcmp
  go_enter FG, Tryz.ntmps198
  go_wp2_with fail
  clear e0 e1
  go_loopw [14, 15] (fun s t wr => ∃ (i j : Nat), s = .int .i64 (i : Int) ∧ t = .int .i64 (j : Int) ∧ (a ≤ i ∧ i ≤ j ∧ j ≤ m) ∧ Hid (∀ t, a ≤ t → t < i → ltOf cf d[m]! d[t]! = false) ∧ Hid (∀ t, j ≤ t → t < m → ltOf cf d[m]! d[t]! = true) ∧ Hid (SWK enc kE w0 blk off d wr)) (fun s t _ => (intOf t).toNat - (intOf s).toNat)
  case atStart => exact ⟨a, m, rfl, rfl, ⟨Nat.le_refl _, by omega, Nat.le_refl _⟩, Lib.hid (fun t h1 h2 => by omega), Lib.hid (fun t h1 h2 => by omega), S0⟩
  case round =>
    as_aux_lemma =>
      clear S0
      obtain ⟨i, j, rfl, rfl, ⟨hi1, hi2, hj1⟩, hlo, hhi, hS⟩ := hrel
      by_cases hlt : i < j
      · have hlt2 : (i : Int) < (j : Int) := by omega
        obtain ⟨h, hq⟩ : ∃ h, h = (i + j) / 2 := ⟨_, rfl⟩
        have h1 : i ≤ h := by omega
        have h2 : h < j := by omega
        have h3 : 2 * h ≤ i + j := by omega
        have h4 : i + j ≤ 2 * h + 1 := by omega
        have he : (((i : Nat) : Int) + ((j : Nat) : Int)) / 2 = ((h : Nat) : Int) := by omega
        have hu : IntKind.u64.wrap ((i : Int) + (j : Int)) = (i : Int) + (j : Int) := IntWalk.u64_in _ (by omega)
        have hv : IntKind.i64.wrap ((h : Nat) : Int) = ((h : Nat) : Int) := IntWalk.i64_in _ (by omega)
        clear hq
        have lu := hS.out.ld R hsH.out P (m) (by omega)
        have lv := hS.out.ld R hsH.out P (h) (by omega)
        have hcg := hS.out.cmp hC.out hsH.out d[m]! d[h]!
        obtain ⟨xu, hxu⟩ : ∃ x, x = d[m]! := ⟨_, rfl⟩
        obtain ⟨xv, hxv⟩ : ∃ x, x = d[h]! := ⟨_, rfl⟩
        rw [← hxu] at lu hcg
        rw [← hxv] at lv hcg
        have hxuH := Lib.hid hxu
        have hxvH := Lib.hid hxv
        clear hxu hxv
        have p0 : (0 : Int) ≤ (h : Int) := by omega
        have p1 : (h : Int) < (sz : Int) := by omega
        have p2 : (0 : Int) ≤ (m : Int) := by omega
        have p3 : (m : Int) < (sz : Int) := by omega
        by_cases hlv : cf xu xv < 0
        · have hlv3 : (!decide (cf xu xv < 0)) = false := by simp; omega
          go_wp2_with fail
          go_quiet_grown (first | (go_at_fn g; refine Calls.grown_of (hcg _ _)))
          have HS2 : Hid (SWK enc kE w0 blk off d (grow (wr.drewN nq) osq)) := Lib.hid (hS.out.grown nq osq)
          have hlth : ltOf cf d[m]! d[h]! = true := by rw [← hxuH.out, ← hxvH.out]; exact decide_eq_true hlv
          have hltH := Lib.hid hlth
          clear lu lv hcg hlth hS
          generalize grow (wr.drewN nq) osq = w2 at HS2 ⊢
          clear he hu hv 
          go_wp2_with fail
          clear hlv3
          go_roundw
          case rel => exact ⟨i, h, rfl, rfl, ⟨hi1, by omega, by omega⟩, hlo, Lib.hid (fun t t1 t2 => by
            by_cases e : j ≤ t
            · exact hhi.out t e t2
            · rcases hO1.out.le (i := h) (j := t) (by omega) t1 t2 with e2 | e2
              · rw [← e2]; exact hltH.out
              · exact lt_bef hO e2 hltH.out), HS2⟩
          case measure => simp [intOf]; omega
        · have hlv3 : (!decide (cf xu xv < 0)) = true := by simp; omega
          go_wp2_with fail
          go_quiet_grown (first | (go_at_fn g; refine Calls.grown_of (hcg _ _)))
          have HS2 : Hid (SWK enc kE w0 blk off d (grow (wr.drewN nq) osq)) := Lib.hid (hS.out.grown nq osq)
          have hlth : ltOf cf d[m]! d[h]! = false := by rw [← hxuH.out, ← hxvH.out]; exact decide_eq_false (by omega)
          have hltH := Lib.hid hlth
          clear lu lv hcg hlth hS
          generalize grow (wr.drewN nq) osq = w2 at HS2 ⊢
          clear he hu hv 
          go_wp2_with fail
          clear hlv3
          go_roundw
          case rel => exact ⟨h + 1, j, by first | rfl | go_num | (congr 1; omega), rfl, ⟨by omega, by omega, hj1⟩, Lib.hid (fun t t1 t2 => by
            by_cases e : t < i
            · exact hlo.out t t1 e
            · rcases hO1.out.le (i := t) (j := h) t1 (by omega) (by omega) with e2 | e2
              · rw [e2]; exact hltH.out
              · exact nlt_bef hO e2 hltH.out), hhi, HS2⟩
          case measure => simp [intOf]; omega
      · obtain rfl : i = j := by omega
        have hlt2 : ¬ ((i : Int) < (i : Int)) := by omega
        obtain ⟨wm, rfl⟩ : ∃ u, u = wr := ⟨_, rfl⟩
        go_wp2_with fail
        go_loopw [17] (fun s wr => ∃ (k : Nat) (dk : Array RowT), s = .int .i64 (k : Int) ∧ (i ≤ k ∧ k ≤ m) ∧ Hid (dk.size = d.size) ∧ Hid (Rot k m (m + 1) d dk) ∧ Hid (PermIn a b d dk) ∧ Hid (SWK enc kE w0 blk off dk wr)) (fun s _ => (intOf s).toNat)
        case atStart => exact ⟨m, d, rfl, ⟨by omega, Nat.le_refl _⟩, Lib.hid rfl, Lib.hid (Rot.left_nil m (m + 1) d), Lib.hid (permIn_refl d a b), hS⟩
        case round =>
          as_aux_lemma =>
            clear hS
            obtain ⟨k, dk, rfl, ⟨hk1, hk2⟩, hdk, hR, hP, hS⟩ := hrel
            by_cases hlt3 : i < k
            · have hlt4 : (i : Int) < (k : Int) := by omega
              have hdk1 : dk.size ≤ d.size := by have := hdk.out; omega
              have hdk2 : d.size ≤ dk.size := by have := hdk.out; omega
              have hdk0 : dk.size = d0.size := hdk.out.trans hsH.out
              have hdk0H := Lib.hid hdk0
              have hix : k < dk.size := by omega
              have hiy : k - 1 < dk.size := by omega
              have S2 : Hid (SWK enc kE w0 blk off (swp dk (k) (k - 1)) ((wr.drew.setCells blk (off + (k) * kE) (enc dk[k - 1]!)).setCells blk (off + (k - 1) * kE) (enc dk[k]!))) := hS.out.swapped R (k) (k - 1) hix hiy
              have l44a := hS.out.ld1 R hdk0H.out P (k) hix
              have l44b := hS.out.ld1 R hdk0H.out P (k - 1) hiy
              have s44a := hS.out.st1 R hdk0H.out P (k) hix dk[k - 1]!
              have s44b := hS.out.st2 R hdk0H.out P (k) (k - 1) hix hiy dk[k - 1]! dk[k]!
              have n44a : (enc dk[k]!).length = kE := R.hk _
              have n44b : (enc dk[k - 1]!).length = kE := R.hk _
              generalize enc dk[k]! = cI44 at S2 l44a s44b n44a
              generalize enc dk[k - 1]! = cJ44 at S2 l44b s44a s44b n44b
              have i0 : (0 : Int) ≤ (k : Int) := by omega
              have i1 : (k : Int) < (sz : Int) := by omega
              have j0 : (1 : Int) ≤ (k : Int) := by omega
              have j1 : (k : Int) - 1 < (sz : Int) := by omega
              have j2 : ((k : Int) - 1).toNat = k - 1 := by omega
              have j3 : IntKind.i64.wrap ((k : Int) - 1) = (k : Int) - 1 := IntWalk.i64_in _ (by omega)
              clear hS hdk0
              go_wp2_with fail
              go_big_region_o
              clear l44a l44b s44a s44b
              generalize (wr.drew.setCells blk (off + (k) * kE) cJ44).setCells blk (off + (k - 1) * kE) cI44 = w2 at S2 ⊢
              clear j3
              go_wp2_with fail
              go_roundw
              case rel => exact ⟨k - 1, swp dk k (k - 1), by congr 1; omega, ⟨by omega, by omega⟩, Lib.hid (by rw [swp_size]; exact hdk.out), Lib.hid (hR.out.fetch (by omega) hk2 (by omega)), Lib.hid (permIn_trans _ _ _ _ _ hP.out (swp_permIn dk a b k (k - 1) (by omega) (by omega) (by omega) (by omega) (by omega))), S2⟩
              case measure => simp [intOf]; omega
            · have hlt4 : ¬ ((i : Int) < (k : Int)) := by omega
              obtain rfl : i = k := by omega
              have hall := Lib.hid (And.intro hP.out (And.intro (show Ord (ltOf cf) RowT.tag a b dk from by
                rw [h1H.out]
                exact Rot.insR hO hR.out hO1.out hi1 hk2 (fun t t1 t2 => bef_no (hO3.out t m t1 (by omega) (Nat.le_refl _) (by omega)) (hlo.out t t1 t2)) (fun t t1 t2 => bef_yes (hhi.out t t1 t2))) hS.out))
              clear hP hR hS
              go_wp2_with fail
              (try simp only [Exit.inBlock, Exit.then])
              refine bodyPost_ret (results_none rfl _ _ _) rfl ?_
              exact ⟨rfl, dk, hall.out⟩
end Go.Proofs.YtjhbffndiaggmaaGreatDoor

/-
  The library's symmetric merge at entries, from a world of the sort's to a world of the sort's. The conditions are index bounds.
-/
namespace Go.Proofs.YtjhbffndiaggmaaGreatDoor
open Go.RowKit Go.ChangeShapes Go.WideShapes Go.Sort
set_option linter.unusedVariables false
set_option linter.unusedSimpArgs false

set_option maxRecDepth 1000000 in
set_option maxHeartbeats 8000000 in
theorem symMerge_gen {P : Program} {kE : Nat} (L : SortP P kE) (FG : P.funcs[198]? = some Tryz.f198) (enc : RowT → List Value) (cf : RowT → RowT → Int) (hO : SWO (ltOf cf)) (g : Nat) (eg : ∀ args w, (callFunc g args).run P w = .ok (.enter g args) w) (blk off cap a m b sz : Nat) (d0 d : Array RowT) (w0 w : World) (hcmp : CmpLays P g #[] enc kE cf blk off d0.size w0) (R : RowK enc kE w0 blk off d0) (hz : sz = d.size) (hs : d.size = d0.size) (S : SWK enc kE w0 blk off d w) (ham : a < m) (hmb : m < b) (hb : b ≤ d.size) (hsz : d.size ≤ 1099511627776) (o1 : Ord (ltOf cf) RowT.tag a m d) (o2 : Ord (ltOf cf) RowT.tag m b d) (o3 : Sep RowT.tag a m b d) (h0 : ¬ m = a + 1) (h1 : ¬ b = m + 1) (FS : P.funcs[236]? = some Tryz.f236) (FR : P.funcs[223]? = some Tryz.f223) (IH : ∀ (a' m' b' : Nat) (d' : Array RowT) (w' : World), b' - a' < b - a → a' < m' → m' < b' → b' ≤ d'.size → d'.size = d0.size → SWK enc kE w0 blk off d' w' → Ord (ltOf cf) RowT.tag a' m' d' → Ord (ltOf cf) RowT.tag m' b' d' → Sep RowT.tag a' m' b' d' →
      Calls P 198 #[.slice (some ⟨blk, off, none⟩) sz cap, .int .i64 a', .int .i64 m', .int .i64 b', .func (.func g) #[] #[]] w' fun e w'' => e = .returned (.tuple #[]) ∧ ∃ d'', PermIn a' b' d' d'' ∧ Ord (ltOf cf) RowT.tag a' b' d'' ∧ SWK enc kE w0 blk off d'' w'') :
    Calls P 198 #[.slice (some ⟨blk, off, none⟩) sz cap, .int .i64 a, .int .i64 m, .int .i64 b, .func (.func g) #[] #[]] w fun e w' => e = .returned (.tuple #[]) ∧ ∃ d', PermIn a b d d' ∧ Ord (ltOf cf) RowT.tag a b d' ∧ SWK enc kE w0 blk off d' w' := by
  have mixed := L.mixed
  have aE := L.aE
  have zE := L.zE
  have tI := L.tI
  have aI := L.aI
  have zI := L.zI
  have tB := L.tB
  have aB := L.aB
  have zB := L.zB
  have tS := L.tS
  have aS := L.aS
  have zS := L.zS
  have tF := L.tF
  have aF := L.aF
  have zF := L.zF
  have tU := L.tU
  have aU := L.aU
  have zU := L.zU
  have e0 : ((m : Int) - (a : Int) == 1) = false := by simp; omega
  have e1 : ((b : Int) - (m : Int) == 1) = false := by simp; omega
  have eR : ∀ args w, (callFunc 223 args).run P w = .ok (.enter 223 args) w := enters_of FR rfl rfl
  have eM : ∀ args w, (callFunc 198 args).run P w = .ok (.enter 198 args) w := enters_of FG rfl rfl
  have hIH := Lib.hid IH
  clear IH
  have S0 : Hid (SWK enc kE w0 blk off d w) := S
  have hzH := Lib.hid hz
  have hsH := Lib.hid hs
  have hsd : d.size ≤ 1099511627776 := hsz
  have hs1 : d.size ≤ sz := by omega
  have hs2 : sz ≤ d.size := by omega
  have hO1 := Lib.hid o1
  have hO2 := Lib.hid o2
  have hO3 := Lib.hid o3
  have hC : Hid (CmpLays P g #[] enc kE cf blk off d0.size w0) := hcmp
  clear S hs hz o1 o2 o3 hcmp
  go_enter FG, Tryz.ntmps198
  obtain ⟨mid, midq⟩ : ∃ h, h = (a + b) / 2 := ⟨_, rfl⟩
  have mid1 : a ≤ mid := by omega
  have mid2 : mid < b := by omega
  have mid3 : 2 * mid ≤ a + b := by omega
  have mid4 : a + b ≤ 2 * mid + 1 := by omega
  have mide : (((a : Nat) : Int) + ((b : Nat) : Int)) / 2 = ((mid : Nat) : Int) := by omega
  have midu : IntKind.u64.wrap ((a : Int) + (b : Int)) = (a : Int) + (b : Int) := IntWalk.u64_in _ (by omega)
  have midv : IntKind.i64.wrap ((mid : Nat) : Int) = ((mid : Nat) : Int) := IntWalk.i64_in _ (by omega)
  clear midq
  have hnm : IntKind.i64.wrap ((mid : Int) + (m : Int)) = ((mid + m : Nat) : Int) := by rw [IntWalk.i64_in _ (by omega)]; omega
  obtain ⟨n, hn⟩ : ∃ n, n = mid + m := ⟨_, rfl⟩
  have hn1 : n ≤ mid + m := by omega
  have hn2 : mid + m ≤ n := by omega
  have hnm2 : ((mid : Int) + (m : Int)) = (n : Int) := by omega
  clear hnm hn
  go_upto_if 140 with fail
  clear mide midu midv hnm2 e0 e1
  go_cut [20, 21] (fun x y wq => ∃ s0 r0 : Nat, x = .int .i64 (s0 : Int) ∧ y = .int .i64 (r0 : Int) ∧ (a ≤ s0 ∧ s0 ≤ r0 ∧ r0 ≤ m ∧ r0 ≤ mid ∧ n ≤ b + s0) ∧ (s0 = a ∨ n = b + s0) ∧ (r0 = m ∨ n = m + r0) ∧ Hid (SWK enc kE w0 blk off d wq))
  case first =>
    as_aux_lemma =>
      by_cases hmm : mid < m
      · have hmm2 : (mid : Int) < (m : Int) := by omega
        go_wp2_with fail
        go_meet
        case rel => exact ⟨n - b, mid, by congr 1; omega, rfl, ⟨by omega, by omega, by omega, Nat.le_refl _, by omega⟩, .inr (by omega), .inr (by omega), S0⟩
      · have hmm2 : ¬ ((mid : Int) < (m : Int)) := by omega
        go_wp2_with fail
        go_meet
        case rel => exact ⟨a, m, rfl, rfl, ⟨Nat.le_refl _, by omega, Nat.le_refl _, by omega, by omega⟩, .inl rfl, .inl rfl, S0⟩
  case rest =>
    as_aux_lemma =>
      clear S0
      obtain ⟨s0, r0, rfl, rfl, ⟨q1, q2, q3, q4, q5⟩, q6, q7, hS0⟩ := hcut
      obtain ⟨wx, rfl⟩ : ∃ u, u = wc := ⟨_, rfl⟩
      have q6H := Lib.hid q6
      have q7H := Lib.hid q7
      clear q6 q7
      go_wp2_with fail
      go_loopw [20, 21] (fun x y wr => ∃ s r : Nat, x = .int .i64 (s : Int) ∧ y = .int .i64 (r : Int) ∧ (s0 ≤ s ∧ s ≤ r ∧ r ≤ r0) ∧ Hid (s = s0 ∨ ltOf cf d[n - s]! d[s - 1]! = false) ∧ Hid (r = r0 ∨ ltOf cf d[n - r - 1]! d[r]! = true) ∧ Hid (SWK enc kE w0 blk off d wr)) (fun x y _ => (intOf y).toNat - (intOf x).toNat)
      case atStart => exact ⟨s0, r0, rfl, rfl, ⟨Nat.le_refl _, q2, Nat.le_refl _⟩, Lib.hid (.inl rfl), Lib.hid (.inl rfl), hS0⟩
      case round =>
        as_aux_lemma =>
          clear hS0
          obtain ⟨s, r, rfl, rfl, ⟨s1, s2, s3⟩, hlo, hhi, hS⟩ := hrel
          by_cases hlt : s < r
          · have hlt2 : (s : Int) < (r : Int) := by omega
            obtain ⟨h, hq⟩ : ∃ h, h = (s + r) / 2 := ⟨_, rfl⟩
            have h1 : s ≤ h := by omega
            have h2 : h < r := by omega
            have h3 : 2 * h ≤ s + r := by omega
            have h4 : s + r ≤ 2 * h + 1 := by omega
            have he : (((s : Nat) : Int) + ((r : Nat) : Int)) / 2 = ((h : Nat) : Int) := by omega
            have hu : IntKind.u64.wrap ((s : Int) + (r : Int)) = (s : Int) + (r : Int) := IntWalk.u64_in _ (by omega)
            have hv : IntKind.i64.wrap ((h : Nat) : Int) = ((h : Nat) : Int) := IntWalk.i64_in _ (by omega)
            clear hq
            obtain ⟨u, hu0⟩ : ∃ u, u = n - 1 - h := ⟨_, rfl⟩
            have hun : u + 1 + h ≤ n := by omega
            have hun2 : n ≤ u + 1 + h := by omega
            clear hu0
            have lu := hS.out.ld R hsH.out P (u) (by omega)
            have lv := hS.out.ld R hsH.out P (h) (by omega)
            have hcg := hS.out.cmp hC.out hsH.out d[u]! d[h]!
            obtain ⟨xu, hxu⟩ : ∃ x, x = d[u]! := ⟨_, rfl⟩
            obtain ⟨xv, hxv⟩ : ∃ x, x = d[h]! := ⟨_, rfl⟩
            rw [← hxu] at lu hcg
            rw [← hxv] at lv hcg
            have hxuH := Lib.hid hxu
            have hxvH := Lib.hid hxv
            clear hxu hxv
            have p0 : (0 : Int) ≤ (h : Int) := by omega
            have p1 : (h : Int) < (sz : Int) := by omega
            have p2 : (0 : Int) ≤ (u : Int) := by omega
            have p3 : (u : Int) < (sz : Int) := by omega
            have p4 : (n : Int) - 1 - (h : Int) = (u : Int) := by omega
            have p5 : IntKind.i64.wrap (u : Int) = (u : Int) := IntWalk.i64_in _ (by omega)
            by_cases hlv : cf xu xv < 0
            · have hlv3 : (!decide (cf xu xv < 0)) = false := by simp; omega
              go_wp2_with fail
              go_quiet_grown (first | (go_at_fn g; refine Calls.grown_of (hcg _ _)))
              have HS2 : Hid (SWK enc kE w0 blk off d (grow (wr.drewN nq) osq)) := Lib.hid (hS.out.grown nq osq)
              have hlth : ltOf cf d[u]! d[h]! = true := by rw [← hxuH.out, ← hxvH.out]; exact decide_eq_true hlv
              have hltH := Lib.hid hlth
              clear lu lv hcg hlth hS
              generalize grow (wr.drewN nq) osq = w2 at HS2 ⊢
              clear he hu hv p4 p5 
              go_wp2_with fail
              clear hlv3
              go_roundw
              case rel => exact ⟨s, h, rfl, rfl, ⟨s1, by omega, by omega⟩, hlo, Lib.hid (.inr (by rw [show n - h - 1 = u by omega]; exact hltH.out)), HS2⟩
              case measure => simp [intOf]; omega
            · have hlv3 : (!decide (cf xu xv < 0)) = true := by simp; omega
              go_wp2_with fail
              go_quiet_grown (first | (go_at_fn g; refine Calls.grown_of (hcg _ _)))
              have HS2 : Hid (SWK enc kE w0 blk off d (grow (wr.drewN nq) osq)) := Lib.hid (hS.out.grown nq osq)
              have hlth : ltOf cf d[u]! d[h]! = false := by rw [← hxuH.out, ← hxvH.out]; exact decide_eq_false (by omega)
              have hltH := Lib.hid hlth
              clear lu lv hcg hlth hS
              generalize grow (wr.drewN nq) osq = w2 at HS2 ⊢
              clear he hu hv p4 p5 
              go_wp2_with fail
              clear hlv3
              go_roundw
              case rel => exact ⟨h + 1, r, by first | rfl | go_num | (congr 1; omega), rfl, ⟨by omega, by omega, s3⟩, Lib.hid (.inr (by rw [show n - (h + 1) = u by omega, Nat.add_sub_cancel]; exact hltH.out)), hhi, HS2⟩
              case measure => simp [intOf]; omega
          · obtain rfl : s = r := by omega
            have hlt2 : ¬ ((s : Int) < (s : Int)) := by omega
            obtain ⟨wm, rfl⟩ : ∃ u, u = wr := ⟨_, rfl⟩
            obtain ⟨en, hen⟩ : ∃ en, en = n - s := ⟨_, rfl⟩
            have en1 : en + s ≤ n := by omega
            have en2 : n ≤ en + s := by omega
            have en3 : m ≤ en := by omega
            have en4 : en ≤ b := by omega
            have en5 : mid ≤ en := by omega
            have en6 : s ≤ m := by omega
            have en7 : s ≤ mid := by omega
            have hcutH := Lib.hid (Cut.found (e := en) hO hO1.out hO2.out hO3.out (by omega) en6 en3 en4 (by
              rcases hlo.out with e | e
              · rcases q6H.out with e2 | e2
                · exact .inl (by omega)
                · exact .inr (.inl (by omega))
              · exact .inr (.inr (by rw [hen]; exact e))) (by
              rcases hhi.out with e | e
              · rcases q7H.out with e2 | e2
                · exact .inl (by omega)
                · exact .inr (.inl (by omega))
              · exact .inr (.inr (by rw [hen]; exact e))))
            have v0 : (n : Int) - (s : Int) = (en : Int) := by omega
            clear hen hlo hhi
            go_upto_region 39 with fail
            clear v0
            go_cut [185] (fun t wq => ∃ v : Bool, t = .bool v ∧ Hid (v = true → s < m ∧ m < en) ∧ Hid (v = false → s = m ∨ m = en) ∧ Hid (SWK enc kE w0 blk off d wq))
            case first =>
              as_aux_lemma =>
                by_cases hr1 : s < m
                · have hr1z : (s : Int) < (m : Int) := by omega
                  by_cases hr2 : m < en
                  · have hr2z : (m : Int) < (en : Int) := by omega
                    go_wp2_with fail
                    go_meet
                    case rel => exact ⟨true, rfl, Lib.hid (fun _ => ⟨hr1, hr2⟩), Lib.hid (fun h => absurd h (by simp)), hS⟩
                  · have hr2z : ¬ ((m : Int) < (en : Int)) := by omega
                    go_wp2_with fail
                    go_meet
                    case rel => exact ⟨false, rfl, Lib.hid (fun h => absurd h (by simp)), Lib.hid (fun _ => .inr (by omega)), hS⟩
                · have hr1z : ¬ ((s : Int) < (m : Int)) := by omega
                  go_wp2_with fail
                  go_meet
                  case rel => exact ⟨false, rfl, Lib.hid (fun h => absurd h (by simp)), Lib.hid (fun _ => .inl (by omega)), hS⟩
            case rest =>
              as_aux_lemma =>
                clear hS
                obtain ⟨v, rfl, hv1, hv2, hS⟩ := hcut
                obtain ⟨wg, rfl⟩ : ∃ u, u = wc := ⟨_, rfl⟩
                go_upto_if 185 with fail
                go_cut [] (fun wq => ∃ d1 : Array RowT, Hid (d1.size = d.size) ∧ Hid (Rot s m en d d1) ∧ Hid (PermIn a b d d1) ∧ Hid (SWK enc kE w0 blk off d1 wq))
                case first =>
                  as_aux_lemma =>
                    cases v with
                    | true =>
                      obtain ⟨hr1, hr2⟩ := hv1.out rfl
                      go_wp2_with fail
                      (with_reducible refine (rotate_P L FS FR enc blk off cap s m en sz d0 d w0 _ _ R hzH.out hsH.out hS.out hr1 hr2 (by omega) (by omega)).mono ?_)
                      rintro e w1 ⟨rfl, d1, h1, h2, h3⟩
                      have hall := Lib.hid (And.intro h1.size (And.intro h1 (And.intro (permIn_mono _ _ _ _ _ _ (by omega) (by omega) (by omega) h2 : PermIn a b d d1) h3)))
                      clear h1 h2 h3 hS
                      go_wp2_with fail
                      go_meet
                      case rel => exact ⟨d1, Lib.hid hall.out.1, Lib.hid hall.out.2.1, Lib.hid hall.out.2.2.1, Lib.hid hall.out.2.2.2⟩
                    | false =>
                      have hall := Lib.hid (show Rot s m en d d from by
                        rcases hv2.out rfl with e | e
                        · rw [e]; exact Rot.left_nil m en d
                        · rw [← e]; exact Rot.right_nil s m d)
                      go_wp2_with fail
                      go_meet
                      case rel => exact ⟨d, Lib.hid rfl, hall, Lib.hid (permIn_refl d a b), hS⟩
                case rest =>
                  as_aux_lemma =>
                    clear hS hv1 hv2
                    obtain ⟨d1, hd1, hR, hP1, hS⟩ := hcut
                    obtain ⟨wy, rfl⟩ : ∃ u, u = wc := ⟨_, rfl⟩
                    have hh := hR.out.halves hcutH.out hO1.out hO2.out hO3.out (by omega) en6 en3 en4
                    rw [show s + (en - m) = mid by omega] at hh
                    obtain ⟨hA, hB, hC2, hD, hS1, hS2, hX⟩ := hh
                    have hAH := Lib.hid hA
                    have hBH := Lib.hid hB
                    have hC2H := Lib.hid hC2
                    have hDH := Lib.hid hD
                    have hS1H := Lib.hid hS1
                    have hS2H := Lib.hid hS2
                    have hXH := Lib.hid hX
                    have hm1 : a + 2 ≤ mid := by omega
                    have hm2 : mid < b := by omega
                    have has : a ≤ s := by omega
                    clear hA hB hC2 hD hS1 hS2 hX hcutH hR
                    go_upto_region 41 with fail
                    go_cut [199] (fun t wq => ∃ v : Bool, t = .bool v ∧ Hid (v = true → a < s ∧ s < mid) ∧ Hid (v = false → a = s ∨ s = mid) ∧ Hid (SWK enc kE w0 blk off d1 wq))
                    case first =>
                      as_aux_lemma =>
                        by_cases hr1 : a < s
                        · have hr1z : (a : Int) < (s : Int) := by omega
                          by_cases hr2 : s < mid
                          · have hr2z : (s : Int) < (mid : Int) := by omega
                            go_wp2_with fail
                            go_meet
                            case rel => exact ⟨true, rfl, Lib.hid (fun _ => ⟨hr1, hr2⟩), Lib.hid (fun h => absurd h (by simp)), hS⟩
                          · have hr2z : ¬ ((s : Int) < (mid : Int)) := by omega
                            go_wp2_with fail
                            go_meet
                            case rel => exact ⟨false, rfl, Lib.hid (fun h => absurd h (by simp)), Lib.hid (fun _ => .inr (by omega)), hS⟩
                        · have hr1z : ¬ ((a : Int) < (s : Int)) := by omega
                          go_wp2_with fail
                          go_meet
                          case rel => exact ⟨false, rfl, Lib.hid (fun h => absurd h (by simp)), Lib.hid (fun _ => .inl (by omega)), hS⟩
                    case rest =>
                      as_aux_lemma =>
                        clear hS
                        obtain ⟨v, rfl, hv1, hv2, hS⟩ := hcut
                        obtain ⟨wh, rfl⟩ : ∃ u, u = wc := ⟨_, rfl⟩
                        go_upto_if 199 with fail
                        go_cut [] (fun wq => ∃ d2 : Array RowT, Hid (PermIn a mid d1 d2) ∧ Hid (Ord (ltOf cf) RowT.tag a mid d2) ∧ Hid (SWK enc kE w0 blk off d2 wq))
                        case first =>
                          as_aux_lemma =>
                            cases v with
                            | true =>
                              obtain ⟨hr1, hr2⟩ := hv1.out rfl
                              go_wp2_with fail
                              (with_reducible refine (hIH.out a s mid d1 _ (by omega) hr1 hr2 (by have := hd1.out; omega) (hd1.out.trans hsH.out) hS.out hAH.out hBH.out hS1H.out).mono ?_)
                              rintro e w1 ⟨rfl, d2, h1, h2, h3⟩
                              have hall := Lib.hid (And.intro h1 (And.intro h2 h3))
                              clear h1 h2 h3 hS
                              go_wp2_with fail
                              go_meet
                              case rel => exact ⟨d2, Lib.hid hall.out.1, Lib.hid hall.out.2.1, Lib.hid hall.out.2.2⟩
                            | false =>
                              have hall := Lib.hid (show Ord (ltOf cf) RowT.tag a mid d1 from by
                                rcases hv2.out rfl with e | e
                                · rw [e]; exact hBH.out
                                · rw [← e]; exact hAH.out)
                              go_wp2_with fail
                              go_meet
                              case rel => exact ⟨d1, Lib.hid (permIn_refl d1 a mid), hall, hS⟩
                        case rest =>
                          as_aux_lemma =>
                            clear hS hv1 hv2
                            obtain ⟨d2, hP2, hO2b, hS⟩ := hcut
                            obtain ⟨wz, rfl⟩ : ∃ u, u = wc := ⟨_, rfl⟩
                            have hd2 := Lib.hid (hP2.out.1.trans hd1.out)
                            have hC3 := Lib.hid (hC2H.out.same fun t x y => hP2.out.2.1 t (by omega))
                            have hD3 := Lib.hid (hDH.out.same fun t x y => hP2.out.2.1 t (by omega))
                            have hS3 := Lib.hid (show Sep RowT.tag mid en b d2 from fun i j x y z u => by rw [hP2.out.2.1 i (by omega), hP2.out.2.1 j (by omega)]; exact hS2H.out i j x y z u)
                            go_upto_region 43 with fail
                            go_cut [213] (fun t wq => ∃ v : Bool, t = .bool v ∧ Hid (v = true → mid < en ∧ en < b) ∧ Hid (v = false → mid = en ∨ en = b) ∧ Hid (SWK enc kE w0 blk off d2 wq))
                            case first =>
                              as_aux_lemma =>
                                by_cases hr1 : mid < en
                                · have hr1z : (mid : Int) < (en : Int) := by omega
                                  by_cases hr2 : en < b
                                  · have hr2z : (en : Int) < (b : Int) := by omega
                                    go_wp2_with fail
                                    go_meet
                                    case rel => exact ⟨true, rfl, Lib.hid (fun _ => ⟨hr1, hr2⟩), Lib.hid (fun h => absurd h (by simp)), hS⟩
                                  · have hr2z : ¬ ((en : Int) < (b : Int)) := by omega
                                    go_wp2_with fail
                                    go_meet
                                    case rel => exact ⟨false, rfl, Lib.hid (fun h => absurd h (by simp)), Lib.hid (fun _ => .inr (by omega)), hS⟩
                                · have hr1z : ¬ ((mid : Int) < (en : Int)) := by omega
                                  go_wp2_with fail
                                  go_meet
                                  case rel => exact ⟨false, rfl, Lib.hid (fun h => absurd h (by simp)), Lib.hid (fun _ => .inl (by omega)), hS⟩
                            case rest =>
                              as_aux_lemma =>
                                clear hS
                                obtain ⟨v, rfl, hv1, hv2, hS⟩ := hcut
                                obtain ⟨wi, rfl⟩ : ∃ u, u = wc := ⟨_, rfl⟩
                                cases v with
                                | true =>
                                  obtain ⟨hr1, hr2⟩ := hv1.out rfl
                                  go_wp2_with fail
                                  (with_reducible refine (hIH.out mid en b d2 _ (by omega) hr1 hr2 (by have := hd2.out; omega) (hd2.out.trans hsH.out) hS.out hC3.out hD3.out hS3.out).mono ?_)
                                  rintro e w1 ⟨rfl, d3, h1, h2, h3⟩
                                  have hj := join_halves hXH.out hP2.out hO2b.out h1 h2 (by omega) (by omega) (by have := hd1.out; omega)
                                  have hall := Lib.hid (And.intro (permIn_trans _ _ _ _ _ hP1.out hj.2) (And.intro hj.1 h3))
                                  clear h1 h2 h3 hS hj
                                  go_wp2_with fail
                                  go_end0
                                  exact ⟨rfl, d3, hall.out⟩
                                | false =>
                                  have ho := Lib.hid (show Ord (ltOf cf) RowT.tag mid b d2 from by
                                    rcases hv2.out rfl with e | e
                                    · rw [e]; exact hD3.out
                                    · rw [← e]; exact hC3.out)
                                  have hj := join_halves hXH.out hP2.out hO2b.out (permIn_refl d2 mid b) ho.out (by omega) (by omega) (by have := hd1.out; omega)
                                  have hall := Lib.hid (And.intro (permIn_trans _ _ _ _ _ hP1.out hj.2) (And.intro hj.1 hS.out))
                                  clear hj hS
                                  go_wp2_with fail
                                  go_end0
                                  exact ⟨rfl, d2, hall.out⟩
theorem symMerge_P {P : Program} {kE : Nat} (L : SortP P kE) (FS : P.funcs[236]? = some Tryz.f236) (FR : P.funcs[223]? = some Tryz.f223) (FG : P.funcs[198]? = some Tryz.f198) (enc : RowT → List Value) (cf : RowT → RowT → Int) (hO : SWO (ltOf cf)) (g : Nat) (eg : ∀ args w, (callFunc g args).run P w = .ok (.enter g args) w) (blk off cap sz : Nat) (d0 : Array RowT) (w0 : World) (hcmp : CmpLays P g #[] enc kE cf blk off d0.size w0) (R : RowK enc kE w0 blk off d0) (hz : sz = d0.size) (hsz : d0.size ≤ 1099511627776) :
    ∀ (N a m b : Nat) (d : Array RowT) (w : World), b - a ≤ N → a < m → m < b → b ≤ d.size → d.size = d0.size → SWK enc kE w0 blk off d w → Ord (ltOf cf) RowT.tag a m d → Ord (ltOf cf) RowT.tag m b d → Sep RowT.tag a m b d →
      Calls P 198 #[.slice (some ⟨blk, off, none⟩) sz cap, .int .i64 a, .int .i64 m, .int .i64 b, .func (.func g) #[] #[]] w fun e w' => e = .returned (.tuple #[]) ∧ ∃ d', PermIn a b d d' ∧ Ord (ltOf cf) RowT.tag a b d' ∧ SWK enc kE w0 blk off d' w'
  | 0, a, m, b, d, w, hN, h1, h2, _, _, _, _, _, _ => by omega
  | N + 1, a, m, b, d, w, hN, h1, h2, hb, hs, S, o1, o2, o3 => by
    by_cases c1 : m = a + 1
    · exact symMerge_one L FG enc cf hO g eg blk off cap a m b sz d0 d w0 w hcmp R (by omega) hs S h1 h2 hb (by omega) o1 o2 o3 c1
    · by_cases c2 : b = m + 1
      · exact symMerge_last L FG enc cf hO g eg blk off cap a m b sz d0 d w0 w hcmp R (by omega) hs S h1 h2 hb (by omega) o1 o2 o3 c1 c2
      · exact symMerge_gen L FG enc cf hO g eg blk off cap a m b sz d0 d w0 w hcmp R (by omega) hs S h1 h2 hb (by omega) o1 o2 o3 c1 c2 FS FR fun a' m' b' d' w' q1 q2 q3 q4 q5 q6 q7 q8 q9 =>
          symMerge_P L FS FR FG enc cf hO g eg blk off cap sz d0 w0 hcmp R hz hsz N a' m' b' d' w' (by omega) q2 q3 q4 q5 q6 q7 q8 q9
end Go.Proofs.YtjhbffndiaggmaaGreatDoor

/-
  The library's stable sort at entries, the whole: a permutation, in order, of equals as they stood. The conditions are index bounds.
-/
namespace Go.Proofs.YtjhbffndiaggmaaGreatDoor
open Go.RowKit Go.ChangeShapes Go.WideShapes Go.Sort
set_option linter.unusedVariables false
set_option linter.unusedSimpArgs false

set_option maxRecDepth 1000000 in
set_option maxHeartbeats 8000000 in
theorem stable_P {P : Program} {kE : Nat} (L : SortP P kE) (enc : RowT → List Value) (cf : RowT → RowT → Int) (hO : SWO (ltOf cf)) (g : Nat) (blk off cap sz : Nat) (d0 : Array RowT) (w0 w : World) (R : RowK enc kE w0 blk off d0) (hz : sz = d0.size) (hsz : d0.size ≤ 1099511627776) (htag : ∀ i, i < sz → d0[i]!.tag = i) (S : SWK enc kE w0 blk off d0 w) (FT : P.funcs[169]? = some Tryz.f169) (FI : P.funcs[197]? = some Tryz.f197) (FM : P.funcs[198]? = some Tryz.f198) (hIns : ∀ (a b : Nat) (dk : Array RowT) (W : World), a ≤ b → b ≤ dk.size → dk.size = d0.size → SWK enc kE w0 blk off dk W →
      Calls P 197 #[.slice (some ⟨blk, off, none⟩) sz cap, .int .i64 a, .int .i64 b, .func (.func g) #[] #[]] W fun e w' => e = .returned (.tuple #[]) ∧ SWK enc kE w0 blk off (insertionSort (ltOf cf) dk a b) w') (hMrg : ∀ (a m b : Nat) (mz : Int) (dk : Array RowT) (W : World), mz = (m : Int) → a < m → m < b → b ≤ dk.size → dk.size = d0.size → SWK enc kE w0 blk off dk W → Ord (ltOf cf) RowT.tag a m dk → Ord (ltOf cf) RowT.tag m b dk → Sep RowT.tag a m b dk →
      Calls P 198 #[.slice (some ⟨blk, off, none⟩) sz cap, .int .i64 a, .int .i64 mz, .int .i64 b, .func (.func g) #[] #[]] W fun e w' => e = .returned (.tuple #[]) ∧ ∃ d', PermIn a b dk d' ∧ Ord (ltOf cf) RowT.tag a b d' ∧ SWK enc kE w0 blk off d' w') :
    Calls P 169 #[.slice (some ⟨blk, off, none⟩) sz cap, .int .i64 sz, .func (.func g) #[] #[]] w fun e w' => e = .returned (.tuple #[]) ∧ ∃ d', PermIn 0 sz d0 d' ∧ Ord (ltOf cf) RowT.tag 0 sz d' ∧ SWK enc kE w0 blk off d' w' := by
  have mixed := L.mixed
  have aE := L.aE
  have zE := L.zE
  have tI := L.tI
  have aI := L.aI
  have zI := L.zI
  have tB := L.tB
  have aB := L.aB
  have zB := L.zB
  have tS := L.tS
  have aS := L.aS
  have zS := L.zS
  have tF := L.tF
  have aF := L.aF
  have zF := L.zF
  have tU := L.tU
  have aU := L.aU
  have zU := L.zU
  have eI : ∀ args w, (callFunc 197 args).run P w = .ok (.enter 197 args) w := enters_of FI rfl rfl
  have eM : ∀ args w, (callFunc 198 args).run P w = .ok (.enter 198 args) w := enters_of FM rfl rfl
  have S0 : Hid (SWK enc kE w0 blk off d0 w) := S
  have hzH := Lib.hid hz
  have hsd : sz ≤ 1099511627776 := by omega
  have hI := Lib.hid hIns
  have hM := Lib.hid hMrg
  have htH := Lib.hid htag
  clear S hz hsz hIns hMrg htag
  go_enter FT, Tryz.ntmps169
  go_wp2_with fail
  go_loopw [7, 8] (fun s t wr => ∃ (q a b : Nat) (dk : Array RowT), s = .int .i64 (a : Int) ∧ t = .int .i64 (b : Int) ∧ (b ≤ a + 20 ∧ a + 20 ≤ b ∧ a ≤ sz) ∧ Hid (a = q * 20) ∧ Hid (dk.size = d0.size) ∧ Hid (First (ltOf cf) RowT.tag 20 sz q d0 dk) ∧ Hid (PermIn 0 sz d0 dk) ∧ Hid (SWK enc kE w0 blk off dk wr)) (fun s _ _ => sz + 1 - (intOf s).toNat)
  case atStart => exact ⟨0, 0, 20, d0, rfl, rfl, ⟨by omega, by omega, by omega⟩, Lib.hid (by omega), Lib.hid rfl, Lib.hid (First.start htH.out), Lib.hid (permIn_refl d0 0 sz), S0⟩
  case round =>
    as_aux_lemma =>
      clear S0
      obtain ⟨q, a, b, dk, rfl, rfl, ⟨ha1, ha2, ha3⟩, haq, hdk, hF, hP, hS⟩ := hrel
      by_cases hle : b ≤ sz
      · have hle2 : (b : Int) ≤ (sz : Int) := by omega
        go_wp2_with fail
        (with_reducible refine (hI.out a b dk _ (by omega) (by have h1 := hdk.out; have h2 := hzH.out; omega) hdk.out hS.out).mono ?_)
        rintro e w1 ⟨rfl, h1⟩
        have hb20 : b = q * 20 + 20 := by have := haq.out; omega
        have hio := insertionSort_ord hO (d := dk) (a := a) (b := b) (by omega) (by have h1 := hdk.out; have h2 := hzH.out; omega) (by have h1 := hF.out.rise htH.out hle; rwa [← haq.out] at h1)
        have hst := hF.out.step (by omega) (by have h1 := hdk.out; have h2 := hzH.out; omega) (by omega) (d' := insertionSort (ltOf cf) dk a b) (by rw [← haq.out, show a + 20 = b by omega]; exact hio.1) (by rw [← haq.out, show a + 20 = b by omega]; exact hio.2)
        have hall := Lib.hid (And.intro (hio.1.1.trans hdk.out) (And.intro hst (And.intro (permIn_trans _ _ _ _ _ hP.out (permIn_mono _ _ _ _ _ _ (Nat.zero_le _) hle (by have h1 := hdk.out; have h2 := hzH.out; omega) hio.1) : PermIn 0 sz d0 _) h1)))
        have hbq := Lib.hid (show b = (q + 1) * 20 by omega)
        clear h1 hio hst hb20 hF hP hS
        go_wp2_with fail
        go_roundw
        case rel => exact ⟨q + 1, b, b + 20, _, rfl, by first | rfl | go_num | (congr 1; omega), ⟨by omega, by omega, hle⟩, hbq, Lib.hid hall.out.1, Lib.hid hall.out.2.1, Lib.hid hall.out.2.2.1, Lib.hid hall.out.2.2.2⟩
        case measure => simp [intOf]; omega
      · have hle2 : ¬ ((b : Int) ≤ (sz : Int)) := by omega
        obtain ⟨wm, rfl⟩ : ∃ u, u = wr := ⟨_, rfl⟩
        go_wp2_with fail
        (with_reducible refine (hI.out a sz dk _ ha3 (by have h1 := hdk.out; have h2 := hzH.out; omega) hdk.out hS.out).mono ?_)
        rintro e w1 ⟨rfl, h1⟩
        have hio := insertionSort_ord hO (d := dk) (a := a) (b := sz) ha3 (by have h1 := hdk.out; have h2 := hzH.out; omega) (by have h1 := hF.out.rise htH.out (Nat.le_refl sz); rwa [← haq.out] at h1)
        have hst := hF.out.last (by omega) (by have h1 := hdk.out; have h2 := hzH.out; omega) (by have := haq.out; omega) (by have := haq.out; omega) (d' := insertionSort (ltOf cf) dk a sz) (by rw [← haq.out]; exact hio.1) (by rw [← haq.out]; exact hio.2)
        have hall := Lib.hid (And.intro (hio.1.1.trans hdk.out) (And.intro hst (And.intro (permIn_trans _ _ _ _ _ hP.out (permIn_mono _ _ _ _ _ _ (Nat.zero_le _) (Nat.le_refl _) (by have h1 := hdk.out; have h2 := hzH.out; omega) hio.1) : PermIn 0 sz d0 _) h1)))
        clear h1 hio hst hF hP hS haq hdk ha1 ha2 ha3 hle hle2
        go_wp2_with fail
        go_loopw [6] (fun u wr => ∃ (s : Nat) (dk : Array RowT), u = .int .i64 (s : Int) ∧ (1 ≤ s ∧ s ≤ 2 * sz + 20) ∧ Hid (dk.size = d0.size) ∧ Hid (BOrd (ltOf cf) RowT.tag s sz dk ∧ InBlk RowT.tag s sz dk) ∧ Hid (PermIn 0 sz d0 dk) ∧ Hid (SWK enc kE w0 blk off dk wr)) (fun u _ => sz - (intOf u).toNat)
        case atStart => exact ⟨20, _, rfl, ⟨by omega, by omega⟩, Lib.hid hall.out.1, Lib.hid hall.out.2.1, Lib.hid hall.out.2.2.1, Lib.hid hall.out.2.2.2⟩
        case round =>
          as_aux_lemma =>
            clear hall
            obtain ⟨s, dk, rfl, ⟨hs1, hs2⟩, hdk, hB, hP, hS⟩ := hrel
            obtain ⟨wo, rfl⟩ : ∃ u, u = wr := ⟨_, rfl⟩
            by_cases hlt : s < sz
            · have hlt2 : (s : Int) < (sz : Int) := by omega
              go_wp2_with fail
              go_loopw [7, 8] (fun x y wr => ∃ (q a b : Nat) (dk : Array RowT), x = .int .i64 (a : Int) ∧ y = .int .i64 (b : Int) ∧ (b ≤ a + 2 * s ∧ a + 2 * s ≤ b ∧ a ≤ sz) ∧ Hid (a = q * (s * 2)) ∧ Hid (dk.size = d0.size) ∧ Hid (Half (ltOf cf) RowT.tag s sz q dk) ∧ Hid (PermIn 0 sz d0 dk) ∧ Hid (SWK enc kE w0 blk off dk wr)) (fun x _ _ => sz + 1 - (intOf x).toNat)
              case atStart => exact ⟨0, 0, 2 * s, dk, rfl, by first | rfl | go_num | (congr 1; omega), ⟨by omega, by omega, by omega⟩, Lib.hid (by omega), hdk, Lib.hid (Half.start hB.out.1 hB.out.2), hP, hS⟩
              case round =>
                as_aux_lemma =>
                  clear hB hP hS hdk
                  obtain ⟨q, a, b, dk, rfl, rfl, ⟨ha1, ha2, ha3⟩, haq, hdk, hF, hP, hS⟩ := hrel
                  by_cases hle : b ≤ sz
                  · have hle2 : (b : Int) ≤ (sz : Int) := by omega
                    have hask := hF.out.asks (b := b) (by omega) (by have := haq.out; omega) hle (by have := haq.out; omega) (.inr (by have := haq.out; omega))
                    rw [← haq.out] at hask
                    have haskH := Lib.hid hask
                    clear hask
                    go_wp2_with fail
                    (with_reducible refine (hM.out a (a + s) b _ dk _ (by omega) (by omega) (by omega) (by have h1 := hdk.out; have h2 := hzH.out; omega) hdk.out hS.out haskH.out.1 haskH.out.2.1 haskH.out.2.2).mono ?_)
                    rintro e w2 ⟨rfl, d2, h1, h2, h3⟩
                    have hst := hF.out.step (by omega) (by have h1 := hdk.out; have h2 := hzH.out; omega) (by have := haq.out; omega) (d' := d2) (by rw [← haq.out, show a + s * 2 = b by omega]; exact h1) (by rw [← haq.out, show a + s * 2 = b by omega]; exact h2)
                    have hall := Lib.hid (And.intro (h1.1.trans hdk.out) (And.intro hst (And.intro (permIn_trans _ _ _ _ _ hP.out (permIn_mono _ _ _ _ _ _ (Nat.zero_le _) hle (by have h1 := hdk.out; have h2 := hzH.out; omega) h1) : PermIn 0 sz d0 _) h3)))
                    have hbq := Lib.hid (show b = (q + 1) * (s * 2) by rw [Nat.add_mul, Nat.one_mul, ← haq.out]; omega)
                    clear h1 h2 h3 hst hF hP hS
                    go_wp2_with fail
                    go_roundw
                    case rel => exact ⟨q + 1, b, b + 2 * s, d2, rfl, by first | rfl | go_num | (congr 1; omega), ⟨by omega, by omega, hle⟩, hbq, Lib.hid hall.out.1, Lib.hid hall.out.2.1, Lib.hid hall.out.2.2.1, Lib.hid hall.out.2.2.2⟩
                    case measure => simp [intOf]; omega
                  · have hle2 : ¬ ((b : Int) ≤ (sz : Int)) := by omega
                    by_cases hm : a + s < sz
                    · have hm2 : (a : Int) + (s : Int) < (sz : Int) := by omega
                      have hask := hF.out.asks (b := sz) (by omega) (by have := haq.out; omega) (Nat.le_refl _) (by have := haq.out; omega) (.inl rfl)
                      rw [← haq.out] at hask
                      have haskH := Lib.hid hask
                      clear hask
                      go_wp2_with fail
                      (with_reducible refine (hM.out a (a + s) sz _ dk _ (by omega) (by omega) hm (by have h1 := hdk.out; have h2 := hzH.out; omega) hdk.out hS.out haskH.out.1 haskH.out.2.1 haskH.out.2.2).mono ?_)
                      rintro e w2 ⟨rfl, d2, h1, h2, h3⟩
                      have hst := hF.out.last (by omega) (by have h1 := hdk.out; have h2 := hzH.out; omega) (by have := haq.out; omega) (by have := haq.out; omega) (d' := d2) (by rw [← haq.out]; exact h1) (by rw [← haq.out]; exact h2)
                      have hall := Lib.hid (And.intro (h1.1.trans hdk.out) (And.intro hst (And.intro (permIn_trans _ _ _ _ _ hP.out (permIn_mono _ _ _ _ _ _ (Nat.zero_le _) (Nat.le_refl _) (by have h1 := hdk.out; have h2 := hzH.out; omega) h1) : PermIn 0 sz d0 _) h3)))
                      clear h1 h2 h3 hst hF hP hS
                      go_wp2_with fail
                      go_roundw
                      case rel => exact ⟨s * 2, d2, by first | rfl | go_num | (congr 1; omega), ⟨by omega, by omega⟩, Lib.hid hall.out.1, Lib.hid hall.out.2.1, Lib.hid hall.out.2.2.1, Lib.hid hall.out.2.2.2⟩
                      case measure => simp [intOf]; omega
                    · have hm2 : ¬ ((a : Int) + (s : Int) < (sz : Int)) := by omega
                      have hst := hF.out.last (by omega) (by have h1 := hdk.out; have h2 := hzH.out; omega) (by have := haq.out; omega) (by have := haq.out; omega) (d' := dk) (permIn_refl _ _ _) (hF.out.lone (by have := haq.out; omega))
                      have hstH := Lib.hid hst
                      clear hst
                      go_wp2_with fail
                      go_roundw
                      case rel => exact ⟨s * 2, dk, by first | rfl | go_num | (congr 1; omega), ⟨by omega, by omega⟩, hdk, hstH, hP, hS⟩
                      case measure => simp [intOf]; omega
            · have hlt2 : ¬ ((s : Int) < (sz : Int)) := by omega
              have hall := Lib.hid (And.intro hP.out (And.intro (hB.out.1.all (by omega)) hS.out))
              clear hB hP hS
              go_wp2_with fail
              go_end0
              exact ⟨rfl, dk, hall.out⟩
set_option maxRecDepth 1000000 in
set_option maxHeartbeats 4000000 in
theorem sortStable_P {P : Program} {kE : Nat} (L : SortP P kE) (enc : RowT → List Value) (cf : RowT → RowT → Int) (hO : SWO (ltOf cf)) (g : Nat) (blk off cap sz : Nat) (d0 : Array RowT) (w0 w : World) (R : RowK enc kE w0 blk off d0) (hz : sz = d0.size) (hsz : d0.size ≤ 1099511627776) (htag : ∀ i, i < sz → d0[i]!.tag = i) (S : SWK enc kE w0 blk off d0 w) (FZ : P.funcs[138]? = some Tryz.f138) (FT : P.funcs[169]? = some Tryz.f169) (FI : P.funcs[197]? = some Tryz.f197) (FM : P.funcs[198]? = some Tryz.f198) (hIns : ∀ (a b : Nat) (dk : Array RowT) (W : World), a ≤ b → b ≤ dk.size → dk.size = d0.size → SWK enc kE w0 blk off dk W →
      Calls P 197 #[.slice (some ⟨blk, off, none⟩) sz cap, .int .i64 a, .int .i64 b, .func (.func g) #[] #[]] W fun e w' => e = .returned (.tuple #[]) ∧ SWK enc kE w0 blk off (insertionSort (ltOf cf) dk a b) w') (hMrg : ∀ (a m b : Nat) (mz : Int) (dk : Array RowT) (W : World), mz = (m : Int) → a < m → m < b → b ≤ dk.size → dk.size = d0.size → SWK enc kE w0 blk off dk W → Ord (ltOf cf) RowT.tag a m dk → Ord (ltOf cf) RowT.tag m b dk → Sep RowT.tag a m b dk →
      Calls P 198 #[.slice (some ⟨blk, off, none⟩) sz cap, .int .i64 a, .int .i64 mz, .int .i64 b, .func (.func g) #[] #[]] W fun e w' => e = .returned (.tuple #[]) ∧ ∃ d', PermIn a b dk d' ∧ Ord (ltOf cf) RowT.tag a b d' ∧ SWK enc kE w0 blk off d' w') :
    Calls P 138 #[.slice (some ⟨blk, off, none⟩) sz cap, .func (.func g) #[] #[]] w fun e w' => e = .returned (.tuple #[]) ∧ ∃ d', PermIn 0 sz d0 d' ∧ Ord (ltOf cf) RowT.tag 0 sz d' ∧ SWK enc kE w0 blk off d' w' := by
  have mixed := L.mixed
  have aE := L.aE
  have zE := L.zE
  have tI := L.tI
  have aI := L.aI
  have zI := L.zI
  have tB := L.tB
  have aB := L.aB
  have zB := L.zB
  have tS := L.tS
  have aS := L.aS
  have zS := L.zS
  have tF := L.tF
  have aF := L.aF
  have zF := L.zF
  have tU := L.tU
  have aU := L.aU
  have zU := L.zU
  have eT : ∀ args w, (callFunc 169 args).run P w = .ok (.enter 169 args) w := enters_of FT rfl rfl
  have hcon := Lib.hid (stable_P L enc cf hO g blk off cap sz d0 w0 w R hz hsz htag S FT FI FM hIns hMrg)
  clear hIns hMrg S hz htag
  go_enter FZ, Tryz.ntmps138
  go_wp2_with fail
  (with_reducible refine hcon.out.mono ?_)
  rintro e w1 ⟨rfl, d1, h1, h2, h3⟩
  have hall := Lib.hid (And.intro h1 (And.intro h2 h3))
  clear h1 h2 h3
  go_wp2_with fail
  go_end0
  exact ⟨rfl, d1, hall.out⟩
end Go.Proofs.YtjhbffndiaggmaaGreatDoor
