/-
  The library's stable sort at entries, the whole: a permutation, in order, of equals as they stood. The conditions are index bounds.
-/
import Derived.Test.YteajjbfecpffeaaSymG
namespace Go.Proofs.Yteajjbfecpffeaa
open Go.RowKit Go.ChangeShapes Go.WideShapes Go.Sort
set_option linter.unusedVariables false
set_option linter.unusedSimpArgs false

set_option maxRecDepth 1000000 in
set_option maxHeartbeats 8000000 in
theorem stable_P {P : Program} {kE : Nat} (L : SortP P kE) (enc : RowT → List Value) (cf : RowT → RowT → Int) (hO : SWO (ltOf cf)) (g : Nat) (blk off cap sz : Nat) (d0 : Array RowT) (w0 w : World) (R : RowK enc kE w0 blk off d0) (hz : sz = d0.size) (hsz : d0.size ≤ 1099511627776) (htag : ∀ i, i < sz → d0[i]!.tag = i) (S : SWK enc kE w0 blk off d0 w) (FT : P.funcs[95]? = some Try.f95) (FI : P.funcs[126]? = some Try.f126) (FM : P.funcs[127]? = some Try.f127) (hIns : ∀ (a b : Nat) (dk : Array RowT) (W : World), a ≤ b → b ≤ dk.size → dk.size = d0.size → SWK enc kE w0 blk off dk W →
      Calls P 126 #[.slice (some ⟨blk, off, none⟩) sz cap, .int .i64 a, .int .i64 b, .func (.func g) #[] #[]] W fun e w' => e = .returned (.tuple #[]) ∧ SWK enc kE w0 blk off (insertionSort (ltOf cf) dk a b) w') (hMrg : ∀ (a m b : Nat) (mz : Int) (dk : Array RowT) (W : World), mz = (m : Int) → a < m → m < b → b ≤ dk.size → dk.size = d0.size → SWK enc kE w0 blk off dk W → Ord (ltOf cf) RowT.tag a m dk → Ord (ltOf cf) RowT.tag m b dk → Sep RowT.tag a m b dk →
      Calls P 127 #[.slice (some ⟨blk, off, none⟩) sz cap, .int .i64 a, .int .i64 mz, .int .i64 b, .func (.func g) #[] #[]] W fun e w' => e = .returned (.tuple #[]) ∧ ∃ d', PermIn a b dk d' ∧ Ord (ltOf cf) RowT.tag a b d' ∧ SWK enc kE w0 blk off d' w') :
    Calls P 95 #[.slice (some ⟨blk, off, none⟩) sz cap, .int .i64 sz, .func (.func g) #[] #[]] w fun e w' => e = .returned (.tuple #[]) ∧ ∃ d', PermIn 0 sz d0 d' ∧ Ord (ltOf cf) RowT.tag 0 sz d' ∧ SWK enc kE w0 blk off d' w' := by
  have mixed := L.mixed
  have aE := L.aE
  have zE := L.zE
  have tI := L.tI
  have aI := L.aI
  have zI := L.zI
  have tB := L.tB
  have aB := L.aB
  have zB := L.zB
  have tS := L.tS
  have aS := L.aS
  have zS := L.zS
  have tF := L.tF
  have aF := L.aF
  have zF := L.zF
  have tU := L.tU
  have aU := L.aU
  have zU := L.zU
  have eI : ∀ args w, (callFunc 126 args).run P w = .ok (.enter 126 args) w := enters_of FI rfl rfl
  have eM : ∀ args w, (callFunc 127 args).run P w = .ok (.enter 127 args) w := enters_of FM rfl rfl
  have S0 : Hid (SWK enc kE w0 blk off d0 w) := S
  have hzH := Lib.hid hz
  have hsd : sz ≤ 1099511627776 := by omega
  have hI := Lib.hid hIns
  have hM := Lib.hid hMrg
  have htH := Lib.hid htag
  clear S hz hsz hIns hMrg htag
  go_enter FT, Try.ntmps95
  go_wp2_with fail
  go_loopw [7, 8] (fun s t wr => ∃ (q a b : Nat) (dk : Array RowT), s = .int .i64 (a : Int) ∧ t = .int .i64 (b : Int) ∧ (b ≤ a + 20 ∧ a + 20 ≤ b ∧ a ≤ sz) ∧ Hid (a = q * 20) ∧ Hid (dk.size = d0.size) ∧ Hid (First (ltOf cf) RowT.tag 20 sz q d0 dk) ∧ Hid (PermIn 0 sz d0 dk) ∧ Hid (SWK enc kE w0 blk off dk wr)) (fun s _ _ => sz + 1 - (intOf s).toNat)
  case atStart => exact ⟨0, 0, 20, d0, rfl, rfl, ⟨by omega, by omega, by omega⟩, Lib.hid (by omega), Lib.hid rfl, Lib.hid (First.start htH.out), Lib.hid (permIn_refl d0 0 sz), S0⟩
  case round =>
    as_aux_lemma =>
      clear S0
      obtain ⟨q, a, b, dk, rfl, rfl, ⟨ha1, ha2, ha3⟩, haq, hdk, hF, hP, hS⟩ := hrel
      by_cases hle : b ≤ sz
      · have hle2 : (b : Int) ≤ (sz : Int) := by omega
        go_wp2_with fail
        (with_reducible refine (hI.out a b dk _ (by omega) (by have h1 := hdk.out; have h2 := hzH.out; omega) hdk.out hS.out).mono ?_)
        rintro e w1 ⟨rfl, h1⟩
        have hb20 : b = q * 20 + 20 := by have := haq.out; omega
        have hio := insertionSort_ord hO (d := dk) (a := a) (b := b) (by omega) (by have h1 := hdk.out; have h2 := hzH.out; omega) (by have h1 := hF.out.rise htH.out hle; rwa [← haq.out] at h1)
        have hst := hF.out.step (by omega) (by have h1 := hdk.out; have h2 := hzH.out; omega) (by omega) (d' := insertionSort (ltOf cf) dk a b) (by rw [← haq.out, show a + 20 = b by omega]; exact hio.1) (by rw [← haq.out, show a + 20 = b by omega]; exact hio.2)
        have hall := Lib.hid (And.intro (hio.1.1.trans hdk.out) (And.intro hst (And.intro (permIn_trans _ _ _ _ _ hP.out (permIn_mono _ _ _ _ _ _ (Nat.zero_le _) hle (by have h1 := hdk.out; have h2 := hzH.out; omega) hio.1) : PermIn 0 sz d0 _) h1)))
        have hbq := Lib.hid (show b = (q + 1) * 20 by omega)
        clear h1 hio hst hb20 hF hP hS
        go_wp2_with fail
        go_roundw
        case rel => exact ⟨q + 1, b, b + 20, _, rfl, by first | rfl | go_num | (congr 1; omega), ⟨by omega, by omega, hle⟩, hbq, Lib.hid hall.out.1, Lib.hid hall.out.2.1, Lib.hid hall.out.2.2.1, Lib.hid hall.out.2.2.2⟩
        case measure => simp [intOf]; omega
      · have hle2 : ¬ ((b : Int) ≤ (sz : Int)) := by omega
        obtain ⟨wm, rfl⟩ : ∃ u, u = wr := ⟨_, rfl⟩
        go_wp2_with fail
        (with_reducible refine (hI.out a sz dk _ ha3 (by have h1 := hdk.out; have h2 := hzH.out; omega) hdk.out hS.out).mono ?_)
        rintro e w1 ⟨rfl, h1⟩
        have hio := insertionSort_ord hO (d := dk) (a := a) (b := sz) ha3 (by have h1 := hdk.out; have h2 := hzH.out; omega) (by have h1 := hF.out.rise htH.out (Nat.le_refl sz); rwa [← haq.out] at h1)
        have hst := hF.out.last (by omega) (by have h1 := hdk.out; have h2 := hzH.out; omega) (by have := haq.out; omega) (by have := haq.out; omega) (d' := insertionSort (ltOf cf) dk a sz) (by rw [← haq.out]; exact hio.1) (by rw [← haq.out]; exact hio.2)
        have hall := Lib.hid (And.intro (hio.1.1.trans hdk.out) (And.intro hst (And.intro (permIn_trans _ _ _ _ _ hP.out (permIn_mono _ _ _ _ _ _ (Nat.zero_le _) (Nat.le_refl _) (by have h1 := hdk.out; have h2 := hzH.out; omega) hio.1) : PermIn 0 sz d0 _) h1)))
        clear h1 hio hst hF hP hS haq hdk ha1 ha2 ha3 hle hle2
        go_wp2_with fail
        go_loopw [6] (fun u wr => ∃ (s : Nat) (dk : Array RowT), u = .int .i64 (s : Int) ∧ (1 ≤ s ∧ s ≤ 2 * sz + 20) ∧ Hid (dk.size = d0.size) ∧ Hid (BOrd (ltOf cf) RowT.tag s sz dk ∧ InBlk RowT.tag s sz dk) ∧ Hid (PermIn 0 sz d0 dk) ∧ Hid (SWK enc kE w0 blk off dk wr)) (fun u _ => sz - (intOf u).toNat)
        case atStart => exact ⟨20, _, rfl, ⟨by omega, by omega⟩, Lib.hid hall.out.1, Lib.hid hall.out.2.1, Lib.hid hall.out.2.2.1, Lib.hid hall.out.2.2.2⟩
        case round =>
          as_aux_lemma =>
            clear hall
            obtain ⟨s, dk, rfl, ⟨hs1, hs2⟩, hdk, hB, hP, hS⟩ := hrel
            obtain ⟨wo, rfl⟩ : ∃ u, u = wr := ⟨_, rfl⟩
            by_cases hlt : s < sz
            · have hlt2 : (s : Int) < (sz : Int) := by omega
              go_wp2_with fail
              go_loopw [7, 8] (fun x y wr => ∃ (q a b : Nat) (dk : Array RowT), x = .int .i64 (a : Int) ∧ y = .int .i64 (b : Int) ∧ (b ≤ a + 2 * s ∧ a + 2 * s ≤ b ∧ a ≤ sz) ∧ Hid (a = q * (s * 2)) ∧ Hid (dk.size = d0.size) ∧ Hid (Half (ltOf cf) RowT.tag s sz q dk) ∧ Hid (PermIn 0 sz d0 dk) ∧ Hid (SWK enc kE w0 blk off dk wr)) (fun x _ _ => sz + 1 - (intOf x).toNat)
              case atStart => exact ⟨0, 0, 2 * s, dk, rfl, by first | rfl | go_num | (congr 1; omega), ⟨by omega, by omega, by omega⟩, Lib.hid (by omega), hdk, Lib.hid (Half.start hB.out.1 hB.out.2), hP, hS⟩
              case round =>
                as_aux_lemma =>
                  clear hB hP hS hdk
                  obtain ⟨q, a, b, dk, rfl, rfl, ⟨ha1, ha2, ha3⟩, haq, hdk, hF, hP, hS⟩ := hrel
                  by_cases hle : b ≤ sz
                  · have hle2 : (b : Int) ≤ (sz : Int) := by omega
                    have hask := hF.out.asks (b := b) (by omega) (by have := haq.out; omega) hle (by have := haq.out; omega) (.inr (by have := haq.out; omega))
                    rw [← haq.out] at hask
                    have haskH := Lib.hid hask
                    clear hask
                    go_wp2_with fail
                    (with_reducible refine (hM.out a (a + s) b _ dk _ (by omega) (by omega) (by omega) (by have h1 := hdk.out; have h2 := hzH.out; omega) hdk.out hS.out haskH.out.1 haskH.out.2.1 haskH.out.2.2).mono ?_)
                    rintro e w2 ⟨rfl, d2, h1, h2, h3⟩
                    have hst := hF.out.step (by omega) (by have h1 := hdk.out; have h2 := hzH.out; omega) (by have := haq.out; omega) (d' := d2) (by rw [← haq.out, show a + s * 2 = b by omega]; exact h1) (by rw [← haq.out, show a + s * 2 = b by omega]; exact h2)
                    have hall := Lib.hid (And.intro (h1.1.trans hdk.out) (And.intro hst (And.intro (permIn_trans _ _ _ _ _ hP.out (permIn_mono _ _ _ _ _ _ (Nat.zero_le _) hle (by have h1 := hdk.out; have h2 := hzH.out; omega) h1) : PermIn 0 sz d0 _) h3)))
                    have hbq := Lib.hid (show b = (q + 1) * (s * 2) by rw [Nat.add_mul, Nat.one_mul, ← haq.out]; omega)
                    clear h1 h2 h3 hst hF hP hS
                    go_wp2_with fail
                    go_roundw
                    case rel => exact ⟨q + 1, b, b + 2 * s, d2, rfl, by first | rfl | go_num | (congr 1; omega), ⟨by omega, by omega, hle⟩, hbq, Lib.hid hall.out.1, Lib.hid hall.out.2.1, Lib.hid hall.out.2.2.1, Lib.hid hall.out.2.2.2⟩
                    case measure => simp [intOf]; omega
                  · have hle2 : ¬ ((b : Int) ≤ (sz : Int)) := by omega
                    by_cases hm : a + s < sz
                    · have hm2 : (a : Int) + (s : Int) < (sz : Int) := by omega
                      have hask := hF.out.asks (b := sz) (by omega) (by have := haq.out; omega) (Nat.le_refl _) (by have := haq.out; omega) (.inl rfl)
                      rw [← haq.out] at hask
                      have haskH := Lib.hid hask
                      clear hask
                      go_wp2_with fail
                      (with_reducible refine (hM.out a (a + s) sz _ dk _ (by omega) (by omega) hm (by have h1 := hdk.out; have h2 := hzH.out; omega) hdk.out hS.out haskH.out.1 haskH.out.2.1 haskH.out.2.2).mono ?_)
                      rintro e w2 ⟨rfl, d2, h1, h2, h3⟩
                      have hst := hF.out.last (by omega) (by have h1 := hdk.out; have h2 := hzH.out; omega) (by have := haq.out; omega) (by have := haq.out; omega) (d' := d2) (by rw [← haq.out]; exact h1) (by rw [← haq.out]; exact h2)
                      have hall := Lib.hid (And.intro (h1.1.trans hdk.out) (And.intro hst (And.intro (permIn_trans _ _ _ _ _ hP.out (permIn_mono _ _ _ _ _ _ (Nat.zero_le _) (Nat.le_refl _) (by have h1 := hdk.out; have h2 := hzH.out; omega) h1) : PermIn 0 sz d0 _) h3)))
                      clear h1 h2 h3 hst hF hP hS
                      go_wp2_with fail
                      go_roundw
                      case rel => exact ⟨s * 2, d2, by first | rfl | go_num | (congr 1; omega), ⟨by omega, by omega⟩, Lib.hid hall.out.1, Lib.hid hall.out.2.1, Lib.hid hall.out.2.2.1, Lib.hid hall.out.2.2.2⟩
                      case measure => simp [intOf]; omega
                    · have hm2 : ¬ ((a : Int) + (s : Int) < (sz : Int)) := by omega
                      have hst := hF.out.last (by omega) (by have h1 := hdk.out; have h2 := hzH.out; omega) (by have := haq.out; omega) (by have := haq.out; omega) (d' := dk) (permIn_refl _ _ _) (hF.out.lone (by have := haq.out; omega))
                      have hstH := Lib.hid hst
                      clear hst
                      go_wp2_with fail
                      go_roundw
                      case rel => exact ⟨s * 2, dk, by first | rfl | go_num | (congr 1; omega), ⟨by omega, by omega⟩, hdk, hstH, hP, hS⟩
                      case measure => simp [intOf]; omega
            · have hlt2 : ¬ ((s : Int) < (sz : Int)) := by omega
              have hall := Lib.hid (And.intro hP.out (And.intro (hB.out.1.all (by omega)) hS.out))
              clear hB hP hS
              go_wp2_with fail
              go_end0
              exact ⟨rfl, dk, hall.out⟩
set_option maxRecDepth 1000000 in
set_option maxHeartbeats 4000000 in
theorem sortStable_P {P : Program} {kE : Nat} (L : SortP P kE) (enc : RowT → List Value) (cf : RowT → RowT → Int) (hO : SWO (ltOf cf)) (g : Nat) (blk off cap sz : Nat) (d0 : Array RowT) (w0 w : World) (R : RowK enc kE w0 blk off d0) (hz : sz = d0.size) (hsz : d0.size ≤ 1099511627776) (htag : ∀ i, i < sz → d0[i]!.tag = i) (S : SWK enc kE w0 blk off d0 w) (FZ : P.funcs[48]? = some Try.f48) (FT : P.funcs[95]? = some Try.f95) (FI : P.funcs[126]? = some Try.f126) (FM : P.funcs[127]? = some Try.f127) (hIns : ∀ (a b : Nat) (dk : Array RowT) (W : World), a ≤ b → b ≤ dk.size → dk.size = d0.size → SWK enc kE w0 blk off dk W →
      Calls P 126 #[.slice (some ⟨blk, off, none⟩) sz cap, .int .i64 a, .int .i64 b, .func (.func g) #[] #[]] W fun e w' => e = .returned (.tuple #[]) ∧ SWK enc kE w0 blk off (insertionSort (ltOf cf) dk a b) w') (hMrg : ∀ (a m b : Nat) (mz : Int) (dk : Array RowT) (W : World), mz = (m : Int) → a < m → m < b → b ≤ dk.size → dk.size = d0.size → SWK enc kE w0 blk off dk W → Ord (ltOf cf) RowT.tag a m dk → Ord (ltOf cf) RowT.tag m b dk → Sep RowT.tag a m b dk →
      Calls P 127 #[.slice (some ⟨blk, off, none⟩) sz cap, .int .i64 a, .int .i64 mz, .int .i64 b, .func (.func g) #[] #[]] W fun e w' => e = .returned (.tuple #[]) ∧ ∃ d', PermIn a b dk d' ∧ Ord (ltOf cf) RowT.tag a b d' ∧ SWK enc kE w0 blk off d' w') :
    Calls P 48 #[.slice (some ⟨blk, off, none⟩) sz cap, .func (.func g) #[] #[]] w fun e w' => e = .returned (.tuple #[]) ∧ ∃ d', PermIn 0 sz d0 d' ∧ Ord (ltOf cf) RowT.tag 0 sz d' ∧ SWK enc kE w0 blk off d' w' := by
  have mixed := L.mixed
  have aE := L.aE
  have zE := L.zE
  have tI := L.tI
  have aI := L.aI
  have zI := L.zI
  have tB := L.tB
  have aB := L.aB
  have zB := L.zB
  have tS := L.tS
  have aS := L.aS
  have zS := L.zS
  have tF := L.tF
  have aF := L.aF
  have zF := L.zF
  have tU := L.tU
  have aU := L.aU
  have zU := L.zU
  have eT : ∀ args w, (callFunc 95 args).run P w = .ok (.enter 95 args) w := enters_of FT rfl rfl
  have hcon := Lib.hid (stable_P L enc cf hO g blk off cap sz d0 w0 w R hz hsz htag S FT FI FM hIns hMrg)
  clear hIns hMrg S hz htag
  go_enter FZ, Try.ntmps48
  go_wp2_with fail
  (with_reducible refine hcon.out.mono ?_)
  rintro e w1 ⟨rfl, d1, h1, h2, h3⟩
  have hall := Lib.hid (And.intro h1 (And.intro h2 h3))
  clear h1 h2 h3
  go_wp2_with fail
  go_end0
  exact ⟨rfl, d1, hall.out⟩
end Go.Proofs.Yteajjbfecpffeaa
