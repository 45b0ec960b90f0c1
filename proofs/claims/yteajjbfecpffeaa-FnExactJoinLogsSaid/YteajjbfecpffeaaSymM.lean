/-
  The library's symmetric merge at entries, from a world of the sort's to a world of the sort's. The conditions are index bounds.
-/
import Derived.Test.YteajjbfecpffeaaStabW
import Derived.Test.YteajjbfecpffeaaStab2
import Derived.Shelf.SlSortCmp.QuietGrown
import Derived.Deep.DeepCutAuto
import Derived.Deep.CutBlock
namespace Go.Proofs.Yteajjbfecpffeaa
open Go.RowKit Go.ChangeShapes Go.WideShapes Go.Sort
set_option linter.unusedVariables false
set_option linter.unusedSimpArgs false

set_option maxRecDepth 1000000 in
set_option maxHeartbeats 8000000 in
theorem symMerge_one {P : Program} {kE : Nat} (L : SortP P kE) (FG : P.funcs[127]? = some Try.f127) (enc : RowT → List Value) (cf : RowT → RowT → Int) (hO : SWO (ltOf cf)) (g : Nat) (eg : ∀ args w, (callFunc g args).run P w = .ok (.enter g args) w) (blk off cap a m b sz : Nat) (d0 d : Array RowT) (w0 w : World) (hcmp : CmpLays P g #[] enc kE cf blk off d0.size w0) (R : RowK enc kE w0 blk off d0) (hz : sz = d.size) (hs : d.size = d0.size) (S : SWK enc kE w0 blk off d w) (ham : a < m) (hmb : m < b) (hb : b ≤ d.size) (hsz : d.size ≤ 1099511627776) (o1 : Ord (ltOf cf) RowT.tag a m d) (o2 : Ord (ltOf cf) RowT.tag m b d) (o3 : Sep RowT.tag a m b d) (h1 : m = a + 1) :
    Calls P 127 #[.slice (some ⟨blk, off, none⟩) sz cap, .int .i64 a, .int .i64 m, .int .i64 b, .func (.func g) #[] #[]] w fun e w' => e = .returned (.tuple #[]) ∧ ∃ d', PermIn a b d d' ∧ Ord (ltOf cf) RowT.tag a b d' ∧ SWK enc kE w0 blk off d' w' := by
  have mixed := L.mixed
  have aE := L.aE
  have zE := L.zE
  have tI := L.tI
  have aI := L.aI
  have zI := L.zI
  have tB := L.tB
  have aB := L.aB
  have zB := L.zB
  have tS := L.tS
  have aS := L.aS
  have zS := L.zS
  have tF := L.tF
  have aF := L.aF
  have zF := L.zF
  have tU := L.tU
  have aU := L.aU
  have zU := L.zU
  have e1 : ((m : Int) - (a : Int) == 1) = true := by simp; omega
  have h1H := Lib.hid h1
  have h1a : m ≤ a + 1 := by omega
  clear h1
  have S0 : Hid (SWK enc kE w0 blk off d w) := S
  have hzH := Lib.hid hz
  have hsH := Lib.hid hs
  have hsd : d.size ≤ 1099511627776 := hsz
  have hs1 : d.size ≤ sz := by omega
  have hs2 : sz ≤ d.size := by omega
  have hO1 := Lib.hid o1
  have hO2 := Lib.hid o2
  have hO3 := Lib.hid o3
  have hC : Hid (CmpLays P g #[] enc kE cf blk off d0.size w0) := hcmp
  clear S hs hz o1 o2 o3 hcmp
  go_enter FG, Try.ntmps127
  go_wp2_with fail
  clear e1
  go_loopw [10, 11] (fun s t wr => ∃ (i j : Nat), s = .int .i64 (i : Int) ∧ t = .int .i64 (j : Int) ∧ (m ≤ i ∧ i ≤ j ∧ j ≤ b) ∧ Hid (∀ t, m ≤ t → t < i → ltOf cf d[t]! d[a]! = true) ∧ Hid (∀ t, j ≤ t → t < b → ltOf cf d[t]! d[a]! = false) ∧ Hid (SWK enc kE w0 blk off d wr)) (fun s t _ => (intOf t).toNat - (intOf s).toNat)
  case atStart => exact ⟨m, b, rfl, rfl, ⟨Nat.le_refl _, by omega, Nat.le_refl _⟩, Lib.hid (fun t h1 h2 => by omega), Lib.hid (fun t h1 h2 => by omega), S0⟩
  case round =>
    as_aux_lemma =>
      clear S0
      obtain ⟨i, j, rfl, rfl, ⟨hi1, hi2, hj1⟩, hlo, hhi, hS⟩ := hrel
      by_cases hlt : i < j
      · have hlt2 : (i : Int) < (j : Int) := by omega
        obtain ⟨h, hq⟩ : ∃ h, h = (i + j) / 2 := ⟨_, rfl⟩
        have h1 : i ≤ h := by omega
        have h2 : h < j := by omega
        have h3 : 2 * h ≤ i + j := by omega
        have h4 : i + j ≤ 2 * h + 1 := by omega
        have he : (((i : Nat) : Int) + ((j : Nat) : Int)) / 2 = ((h : Nat) : Int) := by omega
        have hu : IntKind.u64.wrap ((i : Int) + (j : Int)) = (i : Int) + (j : Int) := IntWalk.u64_in _ (by omega)
        have hv : IntKind.i64.wrap ((h : Nat) : Int) = ((h : Nat) : Int) := IntWalk.i64_in _ (by omega)
        clear hq
        have lu := hS.out.ld R hsH.out P (h) (by omega)
        have lv := hS.out.ld R hsH.out P (a) (by omega)
        have hcg := hS.out.cmp hC.out hsH.out d[h]! d[a]!
        obtain ⟨xu, hxu⟩ : ∃ x, x = d[h]! := ⟨_, rfl⟩
        obtain ⟨xv, hxv⟩ : ∃ x, x = d[a]! := ⟨_, rfl⟩
        rw [← hxu] at lu hcg
        rw [← hxv] at lv hcg
        have hxuH := Lib.hid hxu
        have hxvH := Lib.hid hxv
        clear hxu hxv
        have p0 : (0 : Int) ≤ (h : Int) := by omega
        have p1 : (h : Int) < (sz : Int) := by omega
        have p2 : (0 : Int) ≤ (a : Int) := by omega
        have p3 : (a : Int) < (sz : Int) := by omega
        by_cases hlv : cf xu xv < 0
        · go_wp2_with fail
          go_quiet_grown (first | (go_at_fn g; refine Calls.grown_of (hcg _ _)))
          have HS2 : Hid (SWK enc kE w0 blk off d (grow (wr.drewN nq) osq)) := Lib.hid (hS.out.grown nq osq)
          have hlth : ltOf cf d[h]! d[a]! = true := by rw [← hxuH.out, ← hxvH.out]; exact decide_eq_true hlv
          have hltH := Lib.hid hlth
          clear lu lv hcg hlth hS
          generalize grow (wr.drewN nq) osq = w2 at HS2 ⊢
          clear he hu hv 
          go_wp2_with fail
          skip
          go_roundw
          case rel => exact ⟨h + 1, j, by first | rfl | go_num | (congr 1; omega), rfl, ⟨by omega, by omega, hj1⟩, Lib.hid (fun t t1 t2 => by
            by_cases e : t < i
            · exact hlo.out t t1 e
            · rcases hO2.out.le (i := t) (j := h) t1 (by omega) (by omega) with e2 | e2
              · rw [e2]; exact hltH.out
              · exact bef_lt hO e2 hltH.out), hhi, HS2⟩
          case measure => simp [intOf]; omega
        · go_wp2_with fail
          go_quiet_grown (first | (go_at_fn g; refine Calls.grown_of (hcg _ _)))
          have HS2 : Hid (SWK enc kE w0 blk off d (grow (wr.drewN nq) osq)) := Lib.hid (hS.out.grown nq osq)
          have hlth : ltOf cf d[h]! d[a]! = false := by rw [← hxuH.out, ← hxvH.out]; exact decide_eq_false (by omega)
          have hltH := Lib.hid hlth
          clear lu lv hcg hlth hS
          generalize grow (wr.drewN nq) osq = w2 at HS2 ⊢
          clear he hu hv 
          go_wp2_with fail
          skip
          go_roundw
          case rel => exact ⟨i, h, rfl, rfl, ⟨hi1, by omega, by omega⟩, hlo, Lib.hid (fun t t1 t2 => by
            by_cases e : j ≤ t
            · exact hhi.out t e t2
            · rcases hO2.out.le (i := h) (j := t) (by omega) t1 t2 with e2 | e2
              · rw [← e2]; exact hltH.out
              · exact bef_nlt hO e2 hltH.out), HS2⟩
          case measure => simp [intOf]; omega
      · obtain rfl : i = j := by omega
        have hlt2 : ¬ ((i : Int) < (i : Int)) := by omega
        obtain ⟨wm, rfl⟩ : ∃ u, u = wr := ⟨_, rfl⟩
        go_wp2_with fail
        go_loopw [13] (fun s wr => ∃ (k : Nat) (dk : Array RowT), s = .int .i64 (k : Int) ∧ (a ≤ k ∧ k + 1 ≤ i) ∧ Hid (dk.size = d.size) ∧ Hid (Rot a (a + 1) (k + 1) d dk) ∧ Hid (PermIn a b d dk) ∧ Hid (SWK enc kE w0 blk off dk wr)) (fun s _ => i - (intOf s).toNat)
        case atStart => exact ⟨a, d, rfl, ⟨Nat.le_refl _, by omega⟩, Lib.hid rfl, Lib.hid (Rot.right_nil a (a + 1) d), Lib.hid (permIn_refl d a b), hS⟩
        case round =>
          as_aux_lemma =>
            clear hS
            obtain ⟨k, dk, rfl, ⟨hk1, hk2⟩, hdk, hR, hP, hS⟩ := hrel
            by_cases hlt3 : k + 1 < i
            · have hlt4 : (k : Int) < (i : Int) - 1 := by omega
              have hdk1 : dk.size ≤ d.size := by have := hdk.out; omega
              have hdk2 : d.size ≤ dk.size := by have := hdk.out; omega
              have hdk0 : dk.size = d0.size := hdk.out.trans hsH.out
              have hdk0H := Lib.hid hdk0
              have hix : k < dk.size := by omega
              have hiy : k + 1 < dk.size := by omega
              have S2 : Hid (SWK enc kE w0 blk off (swp dk (k) (k + 1)) ((wr.drew.setCells blk (off + (k) * kE) (enc dk[k + 1]!)).setCells blk (off + (k + 1) * kE) (enc dk[k]!))) := hS.out.swapped R (k) (k + 1) hix hiy
              have l44a := hS.out.ld1 R hdk0H.out P (k) hix
              have l44b := hS.out.ld1 R hdk0H.out P (k + 1) hiy
              have s44a := hS.out.st1 R hdk0H.out P (k) hix dk[k + 1]!
              have s44b := hS.out.st2 R hdk0H.out P (k) (k + 1) hix hiy dk[k + 1]! dk[k]!
              have n44a : (enc dk[k]!).length = kE := R.hk _
              have n44b : (enc dk[k + 1]!).length = kE := R.hk _
              generalize enc dk[k]! = cI44 at S2 l44a s44b n44a
              generalize enc dk[k + 1]! = cJ44 at S2 l44b s44a s44b n44b
              have i0 : (0 : Int) ≤ (k : Int) := by omega
              have i1 : (k : Int) < (sz : Int) := by omega
              have j0 : (0 : Int) ≤ (k : Int) + 1 := by omega
              have j1 : (k : Int) + 1 < (sz : Int) := by omega
              have j2 : ((k : Int) + 1).toNat = k + 1 := by omega
              have j3 : IntKind.i64.wrap ((k : Int) + 1) = (k : Int) + 1 := IntWalk.i64_in _ (by omega)
              clear hS hdk0
              go_wp2_with fail
              go_big_region_o
              clear l44a l44b s44a s44b
              generalize (wr.drew.setCells blk (off + (k) * kE) cJ44).setCells blk (off + (k + 1) * kE) cI44 = w2 at S2 ⊢
              clear j3
              go_wp2_with fail
              go_roundw
              case rel => exact ⟨k + 1, swp dk k (k + 1), by first | rfl | go_num | (congr 1; omega), ⟨by omega, by omega⟩, Lib.hid (by rw [swp_size]; exact hdk.out), Lib.hid (hR.out.carry hk1 (by omega)), Lib.hid (permIn_trans _ _ _ _ _ hP.out (swp_permIn dk a b k (k + 1) (by omega) (by omega) (by omega) (by omega) (by omega))), S2⟩
              case measure => simp [intOf]; omega
            · have hlt4 : ¬ ((k : Int) < (i : Int) - 1) := by omega
              obtain rfl : i = k + 1 := by omega
              have hall := Lib.hid (And.intro hP.out (And.intro (show Ord (ltOf cf) RowT.tag a b dk from by
                have hm := h1H.out
                exact Rot.insL hO hR.out (by rw [← hm]; exact hO2.out) (by omega) (by omega) (fun t t1 t2 => bef_yes (hlo.out t (by omega) t2)) (fun t t1 t2 => bef_no (hO3.out a t (Nat.le_refl _) ham (by omega) t2) (hhi.out t t1 t2))) hS.out))
              clear hP hR hS
              go_wp2_with fail
              (try simp only [Exit.inBlock, Exit.then])
              refine bodyPost_ret (results_none rfl _ _ _) rfl ?_
              exact ⟨rfl, dk, hall.out⟩
set_option maxRecDepth 1000000 in
set_option maxHeartbeats 8000000 in
theorem symMerge_last {P : Program} {kE : Nat} (L : SortP P kE) (FG : P.funcs[127]? = some Try.f127) (enc : RowT → List Value) (cf : RowT → RowT → Int) (hO : SWO (ltOf cf)) (g : Nat) (eg : ∀ args w, (callFunc g args).run P w = .ok (.enter g args) w) (blk off cap a m b sz : Nat) (d0 d : Array RowT) (w0 w : World) (hcmp : CmpLays P g #[] enc kE cf blk off d0.size w0) (R : RowK enc kE w0 blk off d0) (hz : sz = d.size) (hs : d.size = d0.size) (S : SWK enc kE w0 blk off d w) (ham : a < m) (hmb : m < b) (hb : b ≤ d.size) (hsz : d.size ≤ 1099511627776) (o1 : Ord (ltOf cf) RowT.tag a m d) (o2 : Ord (ltOf cf) RowT.tag m b d) (o3 : Sep RowT.tag a m b d) (h0 : ¬ m = a + 1) (h1 : b = m + 1) :
    Calls P 127 #[.slice (some ⟨blk, off, none⟩) sz cap, .int .i64 a, .int .i64 m, .int .i64 b, .func (.func g) #[] #[]] w fun e w' => e = .returned (.tuple #[]) ∧ ∃ d', PermIn a b d d' ∧ Ord (ltOf cf) RowT.tag a b d' ∧ SWK enc kE w0 blk off d' w' := by
  have mixed := L.mixed
  have aE := L.aE
  have zE := L.zE
  have tI := L.tI
  have aI := L.aI
  have zI := L.zI
  have tB := L.tB
  have aB := L.aB
  have zB := L.zB
  have tS := L.tS
  have aS := L.aS
  have zS := L.zS
  have tF := L.tF
  have aF := L.aF
  have zF := L.zF
  have tU := L.tU
  have aU := L.aU
  have zU := L.zU
  have e0 : ((m : Int) - (a : Int) == 1) = false := by simp; omega
  have e1 : ((b : Int) - (m : Int) == 1) = true := by simp; omega
  have h1H := Lib.hid h1
  have h1a : b ≤ m + 1 := by omega
  clear h1
  have S0 : Hid (SWK enc kE w0 blk off d w) := S
  have hzH := Lib.hid hz
  have hsH := Lib.hid hs
  have hsd : d.size ≤ 1099511627776 := hsz
  have hs1 : d.size ≤ sz := by omega
  have hs2 : sz ≤ d.size := by omega
  have hO1 := Lib.hid o1
  have hO2 := Lib.hid o2
  have hO3 := Lib.hid o3
  have hC : Hid (CmpLays P g #[] enc kE cf blk off d0.size w0) := hcmp
  clear S hs hz o1 o2 o3 hcmp
  go_enter FG, Try.ntmps127
  go_wp2_with fail
  clear e0 e1
  go_loopw [14, 15] (fun s t wr => ∃ (i j : Nat), s = .int .i64 (i : Int) ∧ t = .int .i64 (j : Int) ∧ (a ≤ i ∧ i ≤ j ∧ j ≤ m) ∧ Hid (∀ t, a ≤ t → t < i → ltOf cf d[m]! d[t]! = false) ∧ Hid (∀ t, j ≤ t → t < m → ltOf cf d[m]! d[t]! = true) ∧ Hid (SWK enc kE w0 blk off d wr)) (fun s t _ => (intOf t).toNat - (intOf s).toNat)
  case atStart => exact ⟨a, m, rfl, rfl, ⟨Nat.le_refl _, by omega, Nat.le_refl _⟩, Lib.hid (fun t h1 h2 => by omega), Lib.hid (fun t h1 h2 => by omega), S0⟩
  case round =>
    as_aux_lemma =>
      clear S0
      obtain ⟨i, j, rfl, rfl, ⟨hi1, hi2, hj1⟩, hlo, hhi, hS⟩ := hrel
      by_cases hlt : i < j
      · have hlt2 : (i : Int) < (j : Int) := by omega
        obtain ⟨h, hq⟩ : ∃ h, h = (i + j) / 2 := ⟨_, rfl⟩
        have h1 : i ≤ h := by omega
        have h2 : h < j := by omega
        have h3 : 2 * h ≤ i + j := by omega
        have h4 : i + j ≤ 2 * h + 1 := by omega
        have he : (((i : Nat) : Int) + ((j : Nat) : Int)) / 2 = ((h : Nat) : Int) := by omega
        have hu : IntKind.u64.wrap ((i : Int) + (j : Int)) = (i : Int) + (j : Int) := IntWalk.u64_in _ (by omega)
        have hv : IntKind.i64.wrap ((h : Nat) : Int) = ((h : Nat) : Int) := IntWalk.i64_in _ (by omega)
        clear hq
        have lu := hS.out.ld R hsH.out P (m) (by omega)
        have lv := hS.out.ld R hsH.out P (h) (by omega)
        have hcg := hS.out.cmp hC.out hsH.out d[m]! d[h]!
        obtain ⟨xu, hxu⟩ : ∃ x, x = d[m]! := ⟨_, rfl⟩
        obtain ⟨xv, hxv⟩ : ∃ x, x = d[h]! := ⟨_, rfl⟩
        rw [← hxu] at lu hcg
        rw [← hxv] at lv hcg
        have hxuH := Lib.hid hxu
        have hxvH := Lib.hid hxv
        clear hxu hxv
        have p0 : (0 : Int) ≤ (h : Int) := by omega
        have p1 : (h : Int) < (sz : Int) := by omega
        have p2 : (0 : Int) ≤ (m : Int) := by omega
        have p3 : (m : Int) < (sz : Int) := by omega
        by_cases hlv : cf xu xv < 0
        · have hlv3 : (!decide (cf xu xv < 0)) = false := by simp; omega
          go_wp2_with fail
          go_quiet_grown (first | (go_at_fn g; refine Calls.grown_of (hcg _ _)))
          have HS2 : Hid (SWK enc kE w0 blk off d (grow (wr.drewN nq) osq)) := Lib.hid (hS.out.grown nq osq)
          have hlth : ltOf cf d[m]! d[h]! = true := by rw [← hxuH.out, ← hxvH.out]; exact decide_eq_true hlv
          have hltH := Lib.hid hlth
          clear lu lv hcg hlth hS
          generalize grow (wr.drewN nq) osq = w2 at HS2 ⊢
          clear he hu hv 
          go_wp2_with fail
          clear hlv3
          go_roundw
          case rel => exact ⟨i, h, rfl, rfl, ⟨hi1, by omega, by omega⟩, hlo, Lib.hid (fun t t1 t2 => by
            by_cases e : j ≤ t
            · exact hhi.out t e t2
            · rcases hO1.out.le (i := h) (j := t) (by omega) t1 t2 with e2 | e2
              · rw [← e2]; exact hltH.out
              · exact lt_bef hO e2 hltH.out), HS2⟩
          case measure => simp [intOf]; omega
        · have hlv3 : (!decide (cf xu xv < 0)) = true := by simp; omega
          go_wp2_with fail
          go_quiet_grown (first | (go_at_fn g; refine Calls.grown_of (hcg _ _)))
          have HS2 : Hid (SWK enc kE w0 blk off d (grow (wr.drewN nq) osq)) := Lib.hid (hS.out.grown nq osq)
          have hlth : ltOf cf d[m]! d[h]! = false := by rw [← hxuH.out, ← hxvH.out]; exact decide_eq_false (by omega)
          have hltH := Lib.hid hlth
          clear lu lv hcg hlth hS
          generalize grow (wr.drewN nq) osq = w2 at HS2 ⊢
          clear he hu hv 
          go_wp2_with fail
          clear hlv3
          go_roundw
          case rel => exact ⟨h + 1, j, by first | rfl | go_num | (congr 1; omega), rfl, ⟨by omega, by omega, hj1⟩, Lib.hid (fun t t1 t2 => by
            by_cases e : t < i
            · exact hlo.out t t1 e
            · rcases hO1.out.le (i := t) (j := h) t1 (by omega) (by omega) with e2 | e2
              · rw [e2]; exact hltH.out
              · exact nlt_bef hO e2 hltH.out), hhi, HS2⟩
          case measure => simp [intOf]; omega
      · obtain rfl : i = j := by omega
        have hlt2 : ¬ ((i : Int) < (i : Int)) := by omega
        obtain ⟨wm, rfl⟩ : ∃ u, u = wr := ⟨_, rfl⟩
        go_wp2_with fail
        go_loopw [17] (fun s wr => ∃ (k : Nat) (dk : Array RowT), s = .int .i64 (k : Int) ∧ (i ≤ k ∧ k ≤ m) ∧ Hid (dk.size = d.size) ∧ Hid (Rot k m (m + 1) d dk) ∧ Hid (PermIn a b d dk) ∧ Hid (SWK enc kE w0 blk off dk wr)) (fun s _ => (intOf s).toNat)
        case atStart => exact ⟨m, d, rfl, ⟨by omega, Nat.le_refl _⟩, Lib.hid rfl, Lib.hid (Rot.left_nil m (m + 1) d), Lib.hid (permIn_refl d a b), hS⟩
        case round =>
          as_aux_lemma =>
            clear hS
            obtain ⟨k, dk, rfl, ⟨hk1, hk2⟩, hdk, hR, hP, hS⟩ := hrel
            by_cases hlt3 : i < k
            · have hlt4 : (i : Int) < (k : Int) := by omega
              have hdk1 : dk.size ≤ d.size := by have := hdk.out; omega
              have hdk2 : d.size ≤ dk.size := by have := hdk.out; omega
              have hdk0 : dk.size = d0.size := hdk.out.trans hsH.out
              have hdk0H := Lib.hid hdk0
              have hix : k < dk.size := by omega
              have hiy : k - 1 < dk.size := by omega
              have S2 : Hid (SWK enc kE w0 blk off (swp dk (k) (k - 1)) ((wr.drew.setCells blk (off + (k) * kE) (enc dk[k - 1]!)).setCells blk (off + (k - 1) * kE) (enc dk[k]!))) := hS.out.swapped R (k) (k - 1) hix hiy
              have l44a := hS.out.ld1 R hdk0H.out P (k) hix
              have l44b := hS.out.ld1 R hdk0H.out P (k - 1) hiy
              have s44a := hS.out.st1 R hdk0H.out P (k) hix dk[k - 1]!
              have s44b := hS.out.st2 R hdk0H.out P (k) (k - 1) hix hiy dk[k - 1]! dk[k]!
              have n44a : (enc dk[k]!).length = kE := R.hk _
              have n44b : (enc dk[k - 1]!).length = kE := R.hk _
              generalize enc dk[k]! = cI44 at S2 l44a s44b n44a
              generalize enc dk[k - 1]! = cJ44 at S2 l44b s44a s44b n44b
              have i0 : (0 : Int) ≤ (k : Int) := by omega
              have i1 : (k : Int) < (sz : Int) := by omega
              have j0 : (1 : Int) ≤ (k : Int) := by omega
              have j1 : (k : Int) - 1 < (sz : Int) := by omega
              have j2 : ((k : Int) - 1).toNat = k - 1 := by omega
              have j3 : IntKind.i64.wrap ((k : Int) - 1) = (k : Int) - 1 := IntWalk.i64_in _ (by omega)
              clear hS hdk0
              go_wp2_with fail
              go_big_region_o
              clear l44a l44b s44a s44b
              generalize (wr.drew.setCells blk (off + (k) * kE) cJ44).setCells blk (off + (k - 1) * kE) cI44 = w2 at S2 ⊢
              clear j3
              go_wp2_with fail
              go_roundw
              case rel => exact ⟨k - 1, swp dk k (k - 1), by congr 1; omega, ⟨by omega, by omega⟩, Lib.hid (by rw [swp_size]; exact hdk.out), Lib.hid (hR.out.fetch (by omega) hk2 (by omega)), Lib.hid (permIn_trans _ _ _ _ _ hP.out (swp_permIn dk a b k (k - 1) (by omega) (by omega) (by omega) (by omega) (by omega))), S2⟩
              case measure => simp [intOf]; omega
            · have hlt4 : ¬ ((i : Int) < (k : Int)) := by omega
              obtain rfl : i = k := by omega
              have hall := Lib.hid (And.intro hP.out (And.intro (show Ord (ltOf cf) RowT.tag a b dk from by
                rw [h1H.out]
                exact Rot.insR hO hR.out hO1.out hi1 hk2 (fun t t1 t2 => bef_no (hO3.out t m t1 (by omega) (Nat.le_refl _) (by omega)) (hlo.out t t1 t2)) (fun t t1 t2 => bef_yes (hhi.out t t1 t2))) hS.out))
              clear hP hR hS
              go_wp2_with fail
              (try simp only [Exit.inBlock, Exit.then])
              refine bodyPost_ret (results_none rfl _ _ _) rfl ?_
              exact ⟨rfl, dk, hall.out⟩
end Go.Proofs.Yteajjbfecpffeaa
