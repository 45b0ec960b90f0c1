/-
  The library's symmetric merge at entries, from a world of the sort's to a world of the sort's. The conditions are index bounds.
-/
import Derived.Test.YteajjbfecpffeaaSymM
import Derived.Test.YteajjbfecpffeaaStab2
import Derived.Shelf.SlSortCmp.QuietGrown
import Derived.Deep.DeepCutAuto
import Derived.Deep.CutBlock
namespace Go.Proofs.Yteajjbfecpffeaa
open Go.RowKit Go.ChangeShapes Go.WideShapes Go.Sort
set_option linter.unusedVariables false
set_option linter.unusedSimpArgs false

set_option maxRecDepth 1000000 in
set_option maxHeartbeats 8000000 in
theorem symMerge_gen {P : Program} {kE : Nat} (L : SortP P kE) (FG : P.funcs[127]? = some Try.f127) (enc : RowT → List Value) (cf : RowT → RowT → Int) (hO : SWO (ltOf cf)) (g : Nat) (eg : ∀ args w, (callFunc g args).run P w = .ok (.enter g args) w) (blk off cap a m b sz : Nat) (d0 d : Array RowT) (w0 w : World) (hcmp : CmpLays P g #[] enc kE cf blk off d0.size w0) (R : RowK enc kE w0 blk off d0) (hz : sz = d.size) (hs : d.size = d0.size) (S : SWK enc kE w0 blk off d w) (ham : a < m) (hmb : m < b) (hb : b ≤ d.size) (hsz : d.size ≤ 1099511627776) (o1 : Ord (ltOf cf) RowT.tag a m d) (o2 : Ord (ltOf cf) RowT.tag m b d) (o3 : Sep RowT.tag a m b d) (h0 : ¬ m = a + 1) (h1 : ¬ b = m + 1) (FS : P.funcs[155]? = some Try.f155) (FR : P.funcs[148]? = some Try.f148) (IH : ∀ (a' m' b' : Nat) (d' : Array RowT) (w' : World), b' - a' < b - a → a' < m' → m' < b' → b' ≤ d'.size → d'.size = d0.size → SWK enc kE w0 blk off d' w' → Ord (ltOf cf) RowT.tag a' m' d' → Ord (ltOf cf) RowT.tag m' b' d' → Sep RowT.tag a' m' b' d' →
      Calls P 127 #[.slice (some ⟨blk, off, none⟩) sz cap, .int .i64 a', .int .i64 m', .int .i64 b', .func (.func g) #[] #[]] w' fun e w'' => e = .returned (.tuple #[]) ∧ ∃ d'', PermIn a' b' d' d'' ∧ Ord (ltOf cf) RowT.tag a' b' d'' ∧ SWK enc kE w0 blk off d'' w'') :
    Calls P 127 #[.slice (some ⟨blk, off, none⟩) sz cap, .int .i64 a, .int .i64 m, .int .i64 b, .func (.func g) #[] #[]] w fun e w' => e = .returned (.tuple #[]) ∧ ∃ d', PermIn a b d d' ∧ Ord (ltOf cf) RowT.tag a b d' ∧ SWK enc kE w0 blk off d' w' := by
  have mixed := L.mixed
  have aE := L.aE
  have zE := L.zE
  have tI := L.tI
  have aI := L.aI
  have zI := L.zI
  have tB := L.tB
  have aB := L.aB
  have zB := L.zB
  have tS := L.tS
  have aS := L.aS
  have zS := L.zS
  have tF := L.tF
  have aF := L.aF
  have zF := L.zF
  have tU := L.tU
  have aU := L.aU
  have zU := L.zU
  have e0 : ((m : Int) - (a : Int) == 1) = false := by simp; omega
  have e1 : ((b : Int) - (m : Int) == 1) = false := by simp; omega
  have eR : ∀ args w, (callFunc 148 args).run P w = .ok (.enter 148 args) w := enters_of FR rfl rfl
  have eM : ∀ args w, (callFunc 127 args).run P w = .ok (.enter 127 args) w := enters_of FG rfl rfl
  have hIH := Lib.hid IH
  clear IH
  have S0 : Hid (SWK enc kE w0 blk off d w) := S
  have hzH := Lib.hid hz
  have hsH := Lib.hid hs
  have hsd : d.size ≤ 1099511627776 := hsz
  have hs1 : d.size ≤ sz := by omega
  have hs2 : sz ≤ d.size := by omega
  have hO1 := Lib.hid o1
  have hO2 := Lib.hid o2
  have hO3 := Lib.hid o3
  have hC : Hid (CmpLays P g #[] enc kE cf blk off d0.size w0) := hcmp
  clear S hs hz o1 o2 o3 hcmp
  go_enter FG, Try.ntmps127
  obtain ⟨mid, midq⟩ : ∃ h, h = (a + b) / 2 := ⟨_, rfl⟩
  have mid1 : a ≤ mid := by omega
  have mid2 : mid < b := by omega
  have mid3 : 2 * mid ≤ a + b := by omega
  have mid4 : a + b ≤ 2 * mid + 1 := by omega
  have mide : (((a : Nat) : Int) + ((b : Nat) : Int)) / 2 = ((mid : Nat) : Int) := by omega
  have midu : IntKind.u64.wrap ((a : Int) + (b : Int)) = (a : Int) + (b : Int) := IntWalk.u64_in _ (by omega)
  have midv : IntKind.i64.wrap ((mid : Nat) : Int) = ((mid : Nat) : Int) := IntWalk.i64_in _ (by omega)
  clear midq
  have hnm : IntKind.i64.wrap ((mid : Int) + (m : Int)) = ((mid + m : Nat) : Int) := by rw [IntWalk.i64_in _ (by omega)]; omega
  obtain ⟨n, hn⟩ : ∃ n, n = mid + m := ⟨_, rfl⟩
  have hn1 : n ≤ mid + m := by omega
  have hn2 : mid + m ≤ n := by omega
  have hnm2 : ((mid : Int) + (m : Int)) = (n : Int) := by omega
  clear hnm hn
  go_upto_if 140 with fail
  clear mide midu midv hnm2 e0 e1
  go_cut [20, 21] (fun x y wq => ∃ s0 r0 : Nat, x = .int .i64 (s0 : Int) ∧ y = .int .i64 (r0 : Int) ∧ (a ≤ s0 ∧ s0 ≤ r0 ∧ r0 ≤ m ∧ r0 ≤ mid ∧ n ≤ b + s0) ∧ (s0 = a ∨ n = b + s0) ∧ (r0 = m ∨ n = m + r0) ∧ Hid (SWK enc kE w0 blk off d wq))
  case first =>
    as_aux_lemma =>
      by_cases hmm : mid < m
      · have hmm2 : (mid : Int) < (m : Int) := by omega
        go_wp2_with fail
        go_meet
        case rel => exact ⟨n - b, mid, by congr 1; omega, rfl, ⟨by omega, by omega, by omega, Nat.le_refl _, by omega⟩, .inr (by omega), .inr (by omega), S0⟩
      · have hmm2 : ¬ ((mid : Int) < (m : Int)) := by omega
        go_wp2_with fail
        go_meet
        case rel => exact ⟨a, m, rfl, rfl, ⟨Nat.le_refl _, by omega, Nat.le_refl _, by omega, by omega⟩, .inl rfl, .inl rfl, S0⟩
  case rest =>
    as_aux_lemma =>
      clear S0
      obtain ⟨s0, r0, rfl, rfl, ⟨q1, q2, q3, q4, q5⟩, q6, q7, hS0⟩ := hcut
      obtain ⟨wx, rfl⟩ : ∃ u, u = wc := ⟨_, rfl⟩
      have q6H := Lib.hid q6
      have q7H := Lib.hid q7
      clear q6 q7
      go_wp2_with fail
      go_loopw [20, 21] (fun x y wr => ∃ s r : Nat, x = .int .i64 (s : Int) ∧ y = .int .i64 (r : Int) ∧ (s0 ≤ s ∧ s ≤ r ∧ r ≤ r0) ∧ Hid (s = s0 ∨ ltOf cf d[n - s]! d[s - 1]! = false) ∧ Hid (r = r0 ∨ ltOf cf d[n - r - 1]! d[r]! = true) ∧ Hid (SWK enc kE w0 blk off d wr)) (fun x y _ => (intOf y).toNat - (intOf x).toNat)
      case atStart => exact ⟨s0, r0, rfl, rfl, ⟨Nat.le_refl _, q2, Nat.le_refl _⟩, Lib.hid (.inl rfl), Lib.hid (.inl rfl), hS0⟩
      case round =>
        as_aux_lemma =>
          clear hS0
          obtain ⟨s, r, rfl, rfl, ⟨s1, s2, s3⟩, hlo, hhi, hS⟩ := hrel
          by_cases hlt : s < r
          · have hlt2 : (s : Int) < (r : Int) := by omega
            obtain ⟨h, hq⟩ : ∃ h, h = (s + r) / 2 := ⟨_, rfl⟩
            have h1 : s ≤ h := by omega
            have h2 : h < r := by omega
            have h3 : 2 * h ≤ s + r := by omega
            have h4 : s + r ≤ 2 * h + 1 := by omega
            have he : (((s : Nat) : Int) + ((r : Nat) : Int)) / 2 = ((h : Nat) : Int) := by omega
            have hu : IntKind.u64.wrap ((s : Int) + (r : Int)) = (s : Int) + (r : Int) := IntWalk.u64_in _ (by omega)
            have hv : IntKind.i64.wrap ((h : Nat) : Int) = ((h : Nat) : Int) := IntWalk.i64_in _ (by omega)
            clear hq
            obtain ⟨u, hu0⟩ : ∃ u, u = n - 1 - h := ⟨_, rfl⟩
            have hun : u + 1 + h ≤ n := by omega
            have hun2 : n ≤ u + 1 + h := by omega
            clear hu0
            have lu := hS.out.ld R hsH.out P (u) (by omega)
            have lv := hS.out.ld R hsH.out P (h) (by omega)
            have hcg := hS.out.cmp hC.out hsH.out d[u]! d[h]!
            obtain ⟨xu, hxu⟩ : ∃ x, x = d[u]! := ⟨_, rfl⟩
            obtain ⟨xv, hxv⟩ : ∃ x, x = d[h]! := ⟨_, rfl⟩
            rw [← hxu] at lu hcg
            rw [← hxv] at lv hcg
            have hxuH := Lib.hid hxu
            have hxvH := Lib.hid hxv
            clear hxu hxv
            have p0 : (0 : Int) ≤ (h : Int) := by omega
            have p1 : (h : Int) < (sz : Int) := by omega
            have p2 : (0 : Int) ≤ (u : Int) := by omega
            have p3 : (u : Int) < (sz : Int) := by omega
            have p4 : (n : Int) - 1 - (h : Int) = (u : Int) := by omega
            have p5 : IntKind.i64.wrap (u : Int) = (u : Int) := IntWalk.i64_in _ (by omega)
            by_cases hlv : cf xu xv < 0
            · have hlv3 : (!decide (cf xu xv < 0)) = false := by simp; omega
              go_wp2_with fail
              go_quiet_grown (first | (go_at_fn g; refine Calls.grown_of (hcg _ _)))
              have HS2 : Hid (SWK enc kE w0 blk off d (grow (wr.drewN nq) osq)) := Lib.hid (hS.out.grown nq osq)
              have hlth : ltOf cf d[u]! d[h]! = true := by rw [← hxuH.out, ← hxvH.out]; exact decide_eq_true hlv
              have hltH := Lib.hid hlth
              clear lu lv hcg hlth hS
              generalize grow (wr.drewN nq) osq = w2 at HS2 ⊢
              clear he hu hv p4 p5 
              go_wp2_with fail
              clear hlv3
              go_roundw
              case rel => exact ⟨s, h, rfl, rfl, ⟨s1, by omega, by omega⟩, hlo, Lib.hid (.inr (by rw [show n - h - 1 = u by omega]; exact hltH.out)), HS2⟩
              case measure => simp [intOf]; omega
            · have hlv3 : (!decide (cf xu xv < 0)) = true := by simp; omega
              go_wp2_with fail
              go_quiet_grown (first | (go_at_fn g; refine Calls.grown_of (hcg _ _)))
              have HS2 : Hid (SWK enc kE w0 blk off d (grow (wr.drewN nq) osq)) := Lib.hid (hS.out.grown nq osq)
              have hlth : ltOf cf d[u]! d[h]! = false := by rw [← hxuH.out, ← hxvH.out]; exact decide_eq_false (by omega)
              have hltH := Lib.hid hlth
              clear lu lv hcg hlth hS
              generalize grow (wr.drewN nq) osq = w2 at HS2 ⊢
              clear he hu hv p4 p5 
              go_wp2_with fail
              clear hlv3
              go_roundw
              case rel => exact ⟨h + 1, r, by first | rfl | go_num | (congr 1; omega), rfl, ⟨by omega, by omega, s3⟩, Lib.hid (.inr (by rw [show n - (h + 1) = u by omega, Nat.add_sub_cancel]; exact hltH.out)), hhi, HS2⟩
              case measure => simp [intOf]; omega
          · obtain rfl : s = r := by omega
            have hlt2 : ¬ ((s : Int) < (s : Int)) := by omega
            obtain ⟨wm, rfl⟩ : ∃ u, u = wr := ⟨_, rfl⟩
            obtain ⟨en, hen⟩ : ∃ en, en = n - s := ⟨_, rfl⟩
            have en1 : en + s ≤ n := by omega
            have en2 : n ≤ en + s := by omega
            have en3 : m ≤ en := by omega
            have en4 : en ≤ b := by omega
            have en5 : mid ≤ en := by omega
            have en6 : s ≤ m := by omega
            have en7 : s ≤ mid := by omega
            have hcutH := Lib.hid (Cut.found (e := en) hO hO1.out hO2.out hO3.out (by omega) en6 en3 en4 (by
              rcases hlo.out with e | e
              · rcases q6H.out with e2 | e2
                · exact .inl (by omega)
                · exact .inr (.inl (by omega))
              · exact .inr (.inr (by rw [hen]; exact e))) (by
              rcases hhi.out with e | e
              · rcases q7H.out with e2 | e2
                · exact .inl (by omega)
                · exact .inr (.inl (by omega))
              · exact .inr (.inr (by rw [hen]; exact e))))
            have v0 : (n : Int) - (s : Int) = (en : Int) := by omega
            clear hen hlo hhi
            go_upto_region 39 with fail
            clear v0
            go_cut [185] (fun t wq => ∃ v : Bool, t = .bool v ∧ Hid (v = true → s < m ∧ m < en) ∧ Hid (v = false → s = m ∨ m = en) ∧ Hid (SWK enc kE w0 blk off d wq))
            case first =>
              as_aux_lemma =>
                by_cases hr1 : s < m
                · have hr1z : (s : Int) < (m : Int) := by omega
                  by_cases hr2 : m < en
                  · have hr2z : (m : Int) < (en : Int) := by omega
                    go_wp2_with fail
                    go_meet
                    case rel => exact ⟨true, rfl, Lib.hid (fun _ => ⟨hr1, hr2⟩), Lib.hid (fun h => absurd h (by simp)), hS⟩
                  · have hr2z : ¬ ((m : Int) < (en : Int)) := by omega
                    go_wp2_with fail
                    go_meet
                    case rel => exact ⟨false, rfl, Lib.hid (fun h => absurd h (by simp)), Lib.hid (fun _ => .inr (by omega)), hS⟩
                · have hr1z : ¬ ((s : Int) < (m : Int)) := by omega
                  go_wp2_with fail
                  go_meet
                  case rel => exact ⟨false, rfl, Lib.hid (fun h => absurd h (by simp)), Lib.hid (fun _ => .inl (by omega)), hS⟩
            case rest =>
              as_aux_lemma =>
                clear hS
                obtain ⟨v, rfl, hv1, hv2, hS⟩ := hcut
                obtain ⟨wg, rfl⟩ : ∃ u, u = wc := ⟨_, rfl⟩
                go_upto_if 185 with fail
                go_cut [] (fun wq => ∃ d1 : Array RowT, Hid (d1.size = d.size) ∧ Hid (Rot s m en d d1) ∧ Hid (PermIn a b d d1) ∧ Hid (SWK enc kE w0 blk off d1 wq))
                case first =>
                  as_aux_lemma =>
                    cases v with
                    | true =>
                      obtain ⟨hr1, hr2⟩ := hv1.out rfl
                      go_wp2_with fail
                      (with_reducible refine (rotate_P L FS FR enc blk off cap s m en sz d0 d w0 _ _ R hzH.out hsH.out hS.out hr1 hr2 (by omega) (by omega)).mono ?_)
                      rintro e w1 ⟨rfl, d1, h1, h2, h3⟩
                      have hall := Lib.hid (And.intro h1.size (And.intro h1 (And.intro (permIn_mono _ _ _ _ _ _ (by omega) (by omega) (by omega) h2 : PermIn a b d d1) h3)))
                      clear h1 h2 h3 hS
                      go_wp2_with fail
                      go_meet
                      case rel => exact ⟨d1, Lib.hid hall.out.1, Lib.hid hall.out.2.1, Lib.hid hall.out.2.2.1, Lib.hid hall.out.2.2.2⟩
                    | false =>
                      have hall := Lib.hid (show Rot s m en d d from by
                        rcases hv2.out rfl with e | e
                        · rw [e]; exact Rot.left_nil m en d
                        · rw [← e]; exact Rot.right_nil s m d)
                      go_wp2_with fail
                      go_meet
                      case rel => exact ⟨d, Lib.hid rfl, hall, Lib.hid (permIn_refl d a b), hS⟩
                case rest =>
                  as_aux_lemma =>
                    clear hS hv1 hv2
                    obtain ⟨d1, hd1, hR, hP1, hS⟩ := hcut
                    obtain ⟨wy, rfl⟩ : ∃ u, u = wc := ⟨_, rfl⟩
                    have hh := hR.out.halves hcutH.out hO1.out hO2.out hO3.out (by omega) en6 en3 en4
                    rw [show s + (en - m) = mid by omega] at hh
                    obtain ⟨hA, hB, hC2, hD, hS1, hS2, hX⟩ := hh
                    have hAH := Lib.hid hA
                    have hBH := Lib.hid hB
                    have hC2H := Lib.hid hC2
                    have hDH := Lib.hid hD
                    have hS1H := Lib.hid hS1
                    have hS2H := Lib.hid hS2
                    have hXH := Lib.hid hX
                    have hm1 : a + 2 ≤ mid := by omega
                    have hm2 : mid < b := by omega
                    have has : a ≤ s := by omega
                    clear hA hB hC2 hD hS1 hS2 hX hcutH hR
                    go_upto_region 41 with fail
                    go_cut [199] (fun t wq => ∃ v : Bool, t = .bool v ∧ Hid (v = true → a < s ∧ s < mid) ∧ Hid (v = false → a = s ∨ s = mid) ∧ Hid (SWK enc kE w0 blk off d1 wq))
                    case first =>
                      as_aux_lemma =>
                        by_cases hr1 : a < s
                        · have hr1z : (a : Int) < (s : Int) := by omega
                          by_cases hr2 : s < mid
                          · have hr2z : (s : Int) < (mid : Int) := by omega
                            go_wp2_with fail
                            go_meet
                            case rel => exact ⟨true, rfl, Lib.hid (fun _ => ⟨hr1, hr2⟩), Lib.hid (fun h => absurd h (by simp)), hS⟩
                          · have hr2z : ¬ ((s : Int) < (mid : Int)) := by omega
                            go_wp2_with fail
                            go_meet
                            case rel => exact ⟨false, rfl, Lib.hid (fun h => absurd h (by simp)), Lib.hid (fun _ => .inr (by omega)), hS⟩
                        · have hr1z : ¬ ((a : Int) < (s : Int)) := by omega
                          go_wp2_with fail
                          go_meet
                          case rel => exact ⟨false, rfl, Lib.hid (fun h => absurd h (by simp)), Lib.hid (fun _ => .inl (by omega)), hS⟩
                    case rest =>
                      as_aux_lemma =>
                        clear hS
                        obtain ⟨v, rfl, hv1, hv2, hS⟩ := hcut
                        obtain ⟨wh, rfl⟩ : ∃ u, u = wc := ⟨_, rfl⟩
                        go_upto_if 199 with fail
                        go_cut [] (fun wq => ∃ d2 : Array RowT, Hid (PermIn a mid d1 d2) ∧ Hid (Ord (ltOf cf) RowT.tag a mid d2) ∧ Hid (SWK enc kE w0 blk off d2 wq))
                        case first =>
                          as_aux_lemma =>
                            cases v with
                            | true =>
                              obtain ⟨hr1, hr2⟩ := hv1.out rfl
                              go_wp2_with fail
                              (with_reducible refine (hIH.out a s mid d1 _ (by omega) hr1 hr2 (by have := hd1.out; omega) (hd1.out.trans hsH.out) hS.out hAH.out hBH.out hS1H.out).mono ?_)
                              rintro e w1 ⟨rfl, d2, h1, h2, h3⟩
                              have hall := Lib.hid (And.intro h1 (And.intro h2 h3))
                              clear h1 h2 h3 hS
                              go_wp2_with fail
                              go_meet
                              case rel => exact ⟨d2, Lib.hid hall.out.1, Lib.hid hall.out.2.1, Lib.hid hall.out.2.2⟩
                            | false =>
                              have hall := Lib.hid (show Ord (ltOf cf) RowT.tag a mid d1 from by
                                rcases hv2.out rfl with e | e
                                · rw [e]; exact hBH.out
                                · rw [← e]; exact hAH.out)
                              go_wp2_with fail
                              go_meet
                              case rel => exact ⟨d1, Lib.hid (permIn_refl d1 a mid), hall, hS⟩
                        case rest =>
                          as_aux_lemma =>
                            clear hS hv1 hv2
                            obtain ⟨d2, hP2, hO2b, hS⟩ := hcut
                            obtain ⟨wz, rfl⟩ : ∃ u, u = wc := ⟨_, rfl⟩
                            have hd2 := Lib.hid (hP2.out.1.trans hd1.out)
                            have hC3 := Lib.hid (hC2H.out.same fun t x y => hP2.out.2.1 t (by omega))
                            have hD3 := Lib.hid (hDH.out.same fun t x y => hP2.out.2.1 t (by omega))
                            have hS3 := Lib.hid (show Sep RowT.tag mid en b d2 from fun i j x y z u => by rw [hP2.out.2.1 i (by omega), hP2.out.2.1 j (by omega)]; exact hS2H.out i j x y z u)
                            go_upto_region 43 with fail
                            go_cut [213] (fun t wq => ∃ v : Bool, t = .bool v ∧ Hid (v = true → mid < en ∧ en < b) ∧ Hid (v = false → mid = en ∨ en = b) ∧ Hid (SWK enc kE w0 blk off d2 wq))
                            case first =>
                              as_aux_lemma =>
                                by_cases hr1 : mid < en
                                · have hr1z : (mid : Int) < (en : Int) := by omega
                                  by_cases hr2 : en < b
                                  · have hr2z : (en : Int) < (b : Int) := by omega
                                    go_wp2_with fail
                                    go_meet
                                    case rel => exact ⟨true, rfl, Lib.hid (fun _ => ⟨hr1, hr2⟩), Lib.hid (fun h => absurd h (by simp)), hS⟩
                                  · have hr2z : ¬ ((en : Int) < (b : Int)) := by omega
                                    go_wp2_with fail
                                    go_meet
                                    case rel => exact ⟨false, rfl, Lib.hid (fun h => absurd h (by simp)), Lib.hid (fun _ => .inr (by omega)), hS⟩
                                · have hr1z : ¬ ((mid : Int) < (en : Int)) := by omega
                                  go_wp2_with fail
                                  go_meet
                                  case rel => exact ⟨false, rfl, Lib.hid (fun h => absurd h (by simp)), Lib.hid (fun _ => .inl (by omega)), hS⟩
                            case rest =>
                              as_aux_lemma =>
                                clear hS
                                obtain ⟨v, rfl, hv1, hv2, hS⟩ := hcut
                                obtain ⟨wi, rfl⟩ : ∃ u, u = wc := ⟨_, rfl⟩
                                cases v with
                                | true =>
                                  obtain ⟨hr1, hr2⟩ := hv1.out rfl
                                  go_wp2_with fail
                                  (with_reducible refine (hIH.out mid en b d2 _ (by omega) hr1 hr2 (by have := hd2.out; omega) (hd2.out.trans hsH.out) hS.out hC3.out hD3.out hS3.out).mono ?_)
                                  rintro e w1 ⟨rfl, d3, h1, h2, h3⟩
                                  have hj := join_halves hXH.out hP2.out hO2b.out h1 h2 (by omega) (by omega) (by have := hd1.out; omega)
                                  have hall := Lib.hid (And.intro (permIn_trans _ _ _ _ _ hP1.out hj.2) (And.intro hj.1 h3))
                                  clear h1 h2 h3 hS hj
                                  go_wp2_with fail
                                  go_end0
                                  exact ⟨rfl, d3, hall.out⟩
                                | false =>
                                  have ho := Lib.hid (show Ord (ltOf cf) RowT.tag mid b d2 from by
                                    rcases hv2.out rfl with e | e
                                    · rw [e]; exact hD3.out
                                    · rw [← e]; exact hC3.out)
                                  have hj := join_halves hXH.out hP2.out hO2b.out (permIn_refl d2 mid b) ho.out (by omega) (by omega) (by have := hd1.out; omega)
                                  have hall := Lib.hid (And.intro (permIn_trans _ _ _ _ _ hP1.out hj.2) (And.intro hj.1 hS.out))
                                  clear hj hS
                                  go_wp2_with fail
                                  go_end0
                                  exact ⟨rfl, d2, hall.out⟩
theorem symMerge_P {P : Program} {kE : Nat} (L : SortP P kE) (FS : P.funcs[155]? = some Try.f155) (FR : P.funcs[148]? = some Try.f148) (FG : P.funcs[127]? = some Try.f127) (enc : RowT → List Value) (cf : RowT → RowT → Int) (hO : SWO (ltOf cf)) (g : Nat) (eg : ∀ args w, (callFunc g args).run P w = .ok (.enter g args) w) (blk off cap sz : Nat) (d0 : Array RowT) (w0 : World) (hcmp : CmpLays P g #[] enc kE cf blk off d0.size w0) (R : RowK enc kE w0 blk off d0) (hz : sz = d0.size) (hsz : d0.size ≤ 1099511627776) :
    ∀ (N a m b : Nat) (d : Array RowT) (w : World), b - a ≤ N → a < m → m < b → b ≤ d.size → d.size = d0.size → SWK enc kE w0 blk off d w → Ord (ltOf cf) RowT.tag a m d → Ord (ltOf cf) RowT.tag m b d → Sep RowT.tag a m b d →
      Calls P 127 #[.slice (some ⟨blk, off, none⟩) sz cap, .int .i64 a, .int .i64 m, .int .i64 b, .func (.func g) #[] #[]] w fun e w' => e = .returned (.tuple #[]) ∧ ∃ d', PermIn a b d d' ∧ Ord (ltOf cf) RowT.tag a b d' ∧ SWK enc kE w0 blk off d' w'
  | 0, a, m, b, d, w, hN, h1, h2, _, _, _, _, _, _ => by omega
  | N + 1, a, m, b, d, w, hN, h1, h2, hb, hs, S, o1, o2, o3 => by
    by_cases c1 : m = a + 1
    · exact symMerge_one L FG enc cf hO g eg blk off cap a m b sz d0 d w0 w hcmp R (by omega) hs S h1 h2 hb (by omega) o1 o2 o3 c1
    · by_cases c2 : b = m + 1
      · exact symMerge_last L FG enc cf hO g eg blk off cap a m b sz d0 d w0 w hcmp R (by omega) hs S h1 h2 hb (by omega) o1 o2 o3 c1 c2
      · exact symMerge_gen L FG enc cf hO g eg blk off cap a m b sz d0 d w0 w hcmp R (by omega) hs S h1 h2 hb (by omega) o1 o2 o3 c1 c2 FS FR fun a' m' b' d' w' q1 q2 q3 q4 q5 q6 q7 q8 q9 =>
          symMerge_P L FS FR FG enc cf hO g eg blk off cap sz d0 w0 hcmp R hz hsz N a' m' b' d' w' (by omega) q2 q3 q4 q5 q6 q7 q8 q9
end Go.Proofs.Yteajjbfecpffeaa
