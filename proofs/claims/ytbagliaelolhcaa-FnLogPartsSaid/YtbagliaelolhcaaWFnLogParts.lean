/-
  The walk through FnLogParts. The conditions are bounds on lengths.
-/
import Derived.Test.YtbagliaelolhcaaCurLd
import Derived.Test.YtbagliaelolhcaaFactL
import Derived.Test.YtbagliaelolhcaaFrom
import Derived.Deep.DeepCutAuto
import Derived.Deep.CutBlock
namespace Go.Proofs.Ytbagliaelolhcaa
open Go.RowKit Go.ChangeShapes Go.WideShapes
set_option linter.unusedVariables false
set_option linter.unusedSimpArgs false

theorem iChangedEntries_w (es : List Ent) (A : Option Addr) (c : Nat) {l h : Nat} (w : World) (hr : RdE w l h A es) (hl : eszL es ≤ 1048576) (hcap : es.length ≤ c) (L : List Int) (b : Bool) (hL : ceL es = L) (hb : logB es = b) :
    Calls Try.prog 33 #[.slice A es.length c] w fun e w' => ∃ A c, e = .returned (.tuple #[.slice A L.length c, .bool b]) ∧ Rd w' 0 w'.heap.size A L ∧ L.length ≤ 1048576 ∧ Below w.heap.size w w' := by
  subst hL hb
  refine (iChangedEntries_any es A c w hr hl hcap).mono ?_
  rintro e w' ⟨A', c', rfl, ho, hL, hb⟩
  exact ⟨A', c', rfl, ho.rd'.std, hL, hb⟩
theorem sChangedEntries_w (es : List Ent) (A : Option Addr) (c : Nat) {l h : Nat} (w : World) (hr : RdE w l h A es) (hl : eszL es ≤ 1048576) (L : List Int) (b : Bool) (hL : ceL es = L) (hb : logB es = b) :
    Calls Try.prog 34 #[.slice A es.length c] w fun e w' => ∃ A c, e = .returned (.tuple #[.slice A L.length c, .bool b]) ∧ Rd w' 0 w'.heap.size A L ∧ Below w.heap.size w w' := by
  subst hL hb
  refine (sChangedEntries_any es A c w hr hl).mono ?_
  rintro e w' ⟨A', c', rfl, ho, hL, hb⟩
  exact ⟨A', c', rfl, ho, hb⟩
theorem iShownSignals_w (es : List Ent) (A : Option Addr) (c : Nat) {l h : Nat} (w : World) (hr : RdE w l h A es) (hl : eszL es ≤ 1048576) (hcap : es.length ≤ c) (V : Int) (b : Bool) (hV : ssV es = V) (hb : logB es = b) :
    Calls Try.prog 35 #[.slice A es.length c] w fun e w' => e = .returned (.tuple #[.int .i64 V, .bool b]) ∧ Below w.heap.size w w' := by
  subst hV hb; exact iShownSignals_any es A c w hr hl hcap
theorem sShownSignals_w (es : List Ent) (A : Option Addr) (c : Nat) {l h : Nat} (w : World) (hr : RdE w l h A es) (hl : eszL es ≤ 1048576) (V : Int) (b : Bool) (hV : ssV es = V) (hb : logB es = b) :
    Calls Try.prog 36 #[.slice A es.length c] w fun e w' => e = .returned (.tuple #[.int .i64 V, .bool b]) ∧ Below w.heap.size w w' := by
  subst hV hb; exact sShownSignals_any es A c w hr hl
theorem iEntriesFrom_w (es : List Ent) (A : Option Addr) (c : Nat) (f t : Int) {l h : Nat} (w : World) (hr : RdE w l h A es) (hl : eszL es ≤ 1048576) (hcap : es.length ≤ c) (L : List Ent) (b : Bool) (hL : efL es f t = L ∧ efB es f t = b) :
    Calls Try.prog 20 #[.slice A es.length c, .int .i64 f, .int .i64 t] w fun e w' => ∃ A c, e = .returned (.tuple #[.slice A L.length c, .bool b]) ∧ RdE w' 0 w'.heap.size A L ∧ eszL L ≤ 1048576 ∧ Below w.heap.size w w' := by
  obtain ⟨rfl, rfl⟩ := hL
  refine (iEntriesFrom_any es A c f t w hr hl hcap).mono ?_
  rintro e w' ⟨A', c', rfl, ho, hL, hb⟩
  exact ⟨A', c', rfl, ho.rd'.std, hL, hb⟩
theorem sEntriesFrom_w (es : List Ent) (A : Option Addr) (c : Nat) (f t : Int) {l h : Nat} (w : World) (hr : RdE w l h A es) (hl : eszL es ≤ 1048576) (L : List Ent) (b : Bool) (hL : efL es f t = L ∧ efB es f t = b) :
    Calls Try.prog 19 #[.slice A es.length c, .int .i64 f, .int .i64 t] w fun e w' => ∃ A c, e = .returned (.tuple #[.slice A L.length c, .bool b]) ∧ RdE w' 0 w'.heap.size A L ∧ Below w.heap.size w w' := by
  obtain ⟨rfl, rfl⟩ := hL
  refine (sEntriesFrom_any es A c f t w hr hl).mono ?_
  rintro e w' ⟨A', c', rfl, ho, hL, hb⟩
  exact ⟨A', c', rfl, ho, hb⟩
theorem sIsEntry_v (t1 m1 p1 : Int) (y1 : List Int) (A1 : Option Addr) (c1 : Nat) (z1 : List Int) (B1 : Option Addr) (d1 : Nat) {l1 h1 l2 h2 : Nat} (w : World) (ry1 : Rd w l1 h1 A1 y1) (rz1 : Rd w l2 h2 B1 z1) (hy1 : y1.length ≤ 9223372036854775806) (hz1 : z1.length ≤ 9223372036854775806) (v : Bool) (hv : enB t1 m1 p1 y1 z1 = v) :
    Calls Try.prog 43 #[.agg #[.int .i64 t1, .int .i64 m1, .int .i64 p1, .slice A1 y1.length c1, .slice B1 z1.length d1]] w fun e w' => e = .returned (.bool v) ∧ Below w.heap.size w w' := by
  subst hv; exact sIsEntry_any t1 m1 p1 y1 A1 c1 z1 B1 d1 w ry1 rz1 hy1 hz1
set_option maxRecDepth 100000 in
set_option maxHeartbeats 16000000 in
theorem fnLogParts_walk (A1 A2 : Option Addr) (n1 c1 n2 c2 : Nat) (w : World) (h1 : n1 ≤ c1) (h2 : n2 ≤ c2) (m1 : n1 ≤ 9223372036854775807) (m2 : n2 ≤ 9223372036854775807) (hcd1 : CodeAt w w.heap.size A1 n1) (hcd2 : CodeAt w w.heap.size A2 n2) :
    Calls Try.prog 8 #[.slice A1 n1 c1, .slice A2 n2 c2] w fun e w' => e = .returned (.bool true) ∧ Below w.heap.size w w' := by
  go_enter Try.func8, Try.ntmps8
  go_wp2_with fail
  (with_reducible refine (big_v A1 A2 n1 c1 n2 c2 _ m1 m2).mono ?_)
  rintro e w' (⟨rfl, hbig, rfl⟩ | ⟨rfl, rfl⟩)
  · have hB := Below.refl w.heap.size w
    have hcd := hcd2
    go_wp2_with fail
    (with_reducible refine (drawChangedEntries_any A1 n1 c1 _ hcd1 (by omega) h1).mono ?_)
    rintro e w1 ⟨es, A, c, rfl, ⟨hen, hez, hec⟩, hr, b1⟩
    have s1 : w.heap.size ≤ w1.heap.size := b1.size
    replace hB := hB.trans (Below.mono b1 hB.size)
    replace hcd := hcd.st b1
    clear b1
    obtain ⟨L, hL⟩ : ∃ L, ceL es = L := ⟨_, rfl⟩
    obtain ⟨b, hb⟩ : ∃ b, logB es = b := ⟨_, rfl⟩
    obtain ⟨V, hV⟩ : ∃ V, ssV es = V := ⟨_, rfl⟩
    have hat : Hid (b = true → ∀ k (hk : k < es.length), hasB L (k : Int) = !eqL es[k].seen es[k].shown) := Lib.hid fun h k hk => by subst hL; subst hb; exact ce_has h hk
    have hsm : Hid (b = true → (shSum es es.length : Int) = V) := Lib.hid fun h => by subst hV; subst hb; exact (ssV_yes h).symm
    have hLH := Lib.hid hL
    have hbH := Lib.hid hb
    have hVH := Lib.hid hV
    clear hL hb hV
    go_wp2_with fail
    (with_reducible refine (iChangedEntries_w es A c _ hr (by omega) hec L b hLH.out hbH.out).mono ?_)
    rintro e w2 ⟨B1, d1, rfl, r1, hLl, b2⟩
    have s2 : w1.heap.size ≤ w2.heap.size := b2.size
    replace hB := hB.trans (Below.mono b2 hB.size)
    replace hcd := hcd.st b2
    replace hr := hr.st b2
    clear b2
    go_wp2_with fail
    (with_reducible refine (sChangedEntries_w es A c _ hr (by omega) L b hLH.out hbH.out).mono ?_)
    rintro e w3 ⟨B2, d2, rfl, r2, b3⟩
    have s3 : w2.heap.size ≤ w3.heap.size := b3.size
    replace hB := hB.trans (Below.mono b3 hB.size)
    replace hcd := hcd.st b3
    replace hr := hr.st b3
    replace r1 := r1.st b3
    clear b3
    go_wp2_with fail
    (with_reducible refine (iShownSignals_w es A c _ hr (by omega) hec V b hVH.out hbH.out).mono ?_)
    rintro e w4 ⟨rfl, b4⟩
    have s4 : w3.heap.size ≤ w4.heap.size := b4.size
    replace hB := hB.trans (Below.mono b4 hB.size)
    replace hcd := hcd.st b4
    replace hr := hr.st b4
    replace r1 := r1.st b4
    replace r2 := r2.st b4
    clear b4
    go_wp2_with fail
    (with_reducible refine (sShownSignals_w es A c _ hr (by omega) V b hVH.out hbH.out).mono ?_)
    rintro e w5 ⟨rfl, b5⟩
    have s5 : w4.heap.size ≤ w5.heap.size := b5.size
    replace hB := hB.trans (Below.mono b5 hB.size)
    replace hcd := hcd.st b5
    replace hr := hr.st b5
    replace r1 := r1.st b5
    replace r2 := r2.st b5
    clear b5
    go_wp2_with fail
    (with_reducible refine (sameInts_t L B1 B2 L.length L.length d1 d2 _ rfl rfl r1 r2 hLl).mono ?_)
    rintro e w6 ⟨rfl, b6⟩
    have s6 : w5.heap.size ≤ w6.heap.size := b6.size
    replace hB := hB.trans (Below.mono b6 hB.size)
    replace hcd := hcd.st b6
    replace hr := hr.st b6
    replace r1 := r1.st b6
    replace r2 := r2.st b6
    clear b6
    clear r1 hLH hbH hVH hcd1
    have hsz0 : Hid (shSum es 0 = 0) := Lib.hid (shSum_zero es)
    go_wp2_with fail
    go_loopw [14, 86] (fun s i wr => ∃ k : Nat, k ≤ es.length ∧ s = .int .i64 (shSum es k : Int) ∧ i = .int .i64 (k : Int) ∧ Below w.heap.size w wr ∧ CodeAt wr wr.heap.size A2 n2 ∧ RdE wr 0 wr.heap.size A es ∧ Rd wr 0 wr.heap.size B2 L) (fun _ i _ => es.length - (intOf i).toNat)
    case atStart => exact ⟨0, Nat.zero_le _, by rw [hsz0.out]; rfl, rfl, hB, hcd, hr.std, r2.std⟩
    case round =>
      clear hB hcd hr r2 hsz0
      obtain ⟨k, hk, rfl, rfl, hB, hcd, hr, r2⟩ := hrel
      by_cases hlt : k < es.length
      · obtain ⟨b0, off, hA, _, _, hc⟩ := hr (by omega)
        obtain ⟨A3, c3, A4, c4, x0, x1, x2, x3, x4, ra, rb⟩ := hc k hlt
        have hat1 := fun h => hat.out h k hlt
        have hss := Lib.hid (shSum_succ es k hlt)
        have hsl := shSum_le es (k + 1)
        have hes := esz_at es k hlt
        have hsl2 : shSum es k + es[k].shown.length ≤ 600 := by have := hss.out; omega
        have q1 : es[k].seen.length ≤ 1048576 := by omega
        have q2 : es[k].shown.length ≤ 1048576 := by omega
        have i0 : (0 : Int) ≤ (k : Int) := by omega
        have i1 : (k : Int) < (es.length : Int) := by omega
        subst hA
        clear hc hsl hes
        obtain ⟨ek, hek⟩ : ∃ ek, ek = es[k] := ⟨_, rfl⟩
        rw [← hek] at x0 x1 x2 x3 x4 ra rb hat1 hss q1 q2 hsl2
        clear hek
        have v1 : IntKind.i64.wrap ((shSum es k : Int) + (ek.shown.length : Int)) = ((shSum es k + ek.shown.length : Nat) : Int) := by rw [IntWalk.i64_in _ (by omega)]; omega
        cases b with
        | false =>
          have bE := Bk.new wr 42 #[.int .i64 ek.time, .int .i64 ek.msg, .int .i64 ek.part, .slice A3 ek.seen.length c3, .slice A4 ek.shown.length c4]
          have y3 := bE.cell 3
          have y4 := bE.cell 4
          have yl := bE.lt
          simp at y3 y4
          have hsr := Lib.hid (show (wr.alloc (.cells #[.int .i64 ek.time, .int .i64 ek.msg, .int .i64 ek.part, .slice A3 ek.seen.length c3, .slice A4 ek.shown.length c4] 42)).heap.size = wr.heap.size + 1 by simp)
          have hall := Lib.hid (And.intro (hB.alloc hB.size (.cells #[.int .i64 ek.time, .int .i64 ek.msg, .int .i64 ek.part, .slice A3 ek.seen.length c3, .slice A4 ek.shown.length c4] 42)) (And.intro (hcd.st ((Below.refl _ _).alloc (Nat.le_refl _) (.cells #[.int .i64 ek.time, .int .i64 ek.msg, .int .i64 ek.part, .slice A3 ek.seen.length c3, .slice A4 ek.shown.length c4] 42))) (And.intro (hr.alloc (.cells #[.int .i64 ek.time, .int .i64 ek.msg, .int .i64 ek.part, .slice A3 ek.seen.length c3, .slice A4 ek.shown.length c4] 42)).std (r2.alloc (.cells #[.int .i64 ek.time, .int .i64 ek.msg, .int .i64 ek.part, .slice A3 ek.seen.length c3, .slice A4 ek.shown.length c4] 42)).std)))
          clear hB hcd hr r2 ra rb bE hat1
          go_wp2_with fail
          go_roundw
          case rel => exact ⟨k + 1, by omega, by rw [hss.out]; first | done | rfl | simp, by go_num, hall.out.1, hall.out.2.1, hall.out.2.2.1, hall.out.2.2.2⟩
          case measure => simp [intOf]; omega
        | true =>
          replace hat1 := hat1 rfl
          obtain ⟨v, hv⟩ : ∃ v, eqL ek.seen ek.shown = v := ⟨_, rfl⟩
          rw [hv] at hat1
          have hvH := Lib.hid hv
          have hatH := Lib.hid hat1
          clear hv hat1
          go_upto_region 14 with fail
          obtain ⟨w7, hw7⟩ : ∃ u, u = wr.alloc (.cells #[.int .i64 ek.time, .int .i64 ek.msg, .int .i64 ek.part, .slice A3 ek.seen.length c3, .slice A4 ek.shown.length c4] 42) := ⟨_, rfl⟩
          rw [← hw7]
          have e7 : w7.heap.size = wr.heap.size + 1 := by rw [hw7]; simp
          have s7 : wr.heap.size + 1 ≤ w7.heap.size := by omega
          have b7 : Below wr.heap.size wr w7 := by rw [hw7]; exact (Below.refl _ _).alloc (Nat.le_refl _) _
          have bE : Bk w7 (wr.heap.size) 42 #[.int .i64 ek.time, .int .i64 ek.msg, .int .i64 ek.part, .slice A3 ek.seen.length c3, .slice A4 ek.shown.length c4] := by rw [hw7]; exact Bk.new _ _ _
          replace hB := hB.trans (Below.mono b7 hB.size)
          replace hcd := hcd.st b7
          replace hr := hr.st b7
          replace r2 := r2.st b7
          replace ra := ra.st b7
          replace rb := rb.st b7
          replace e7 := Lib.hid e7
          clear b7 hw7
          have yl := bE.lt
          have y0 := bE.cell 0
          have y1 := bE.cell 1
          have y2 := bE.cell 2
          have y3 := bE.cell 3
          have y4 := bE.cell 4
          simp at y0 y1 y2 y3 y4
          clear x0 x1 x2 x3 x4
          go_wp2_with fail
          (with_reducible refine (sameInts_v ek.seen ek.shown A3 A4 c3 c4 _ ra rb (by omega) (by omega) v hvH.out).mono ?_)
          rintro e w8 ⟨rfl, b8⟩
          have s8 : w7.heap.size ≤ w8.heap.size := b8.size
          replace hB := hB.trans (Below.mono b8 hB.size)
          replace hcd := hcd.st b8
          replace hr := hr.st b8
          replace r2 := r2.st b8
          replace ra := ra.st b8
          replace rb := rb.st b8
          replace bE := bE.st b8
          clear b8
          clear yl y0 y1 y2 y3 y4 ra rb
          go_wp2_with fail
          (with_reducible refine (pIn_v L B2 L.length d2 (k : Int) _ rfl r2 hLl (!v) hatH.out).mono ?_)
          rintro e w' ⟨rfl, rfl⟩
          have yl := bE.lt
          have y0 := bE.cell 0
          have y1 := bE.cell 1
          have y2 := bE.cell 2
          have y3 := bE.cell 3
          have y4 := bE.cell 4
          simp at y0 y1 y2 y3 y4
          have hall := Lib.hid (And.intro hB (And.intro hcd (And.intro hr.std r2.std)))
          clear hB hcd hr r2 bE
          have hne : (v == !v) = false := by cases v <;> rfl
          go_wp2_with fail
          go_roundw
          case rel => exact ⟨k + 1, by omega, by rw [hss.out]; first | done | rfl | simp, by go_num, hall.out.1, hall.out.2.1, hall.out.2.2.1, hall.out.2.2.2⟩
          case measure => simp [intOf]; omega
      · obtain rfl : k = es.length := by omega
        obtain ⟨wl, rfl⟩ : ∃ wl, wl = wr := ⟨_, rfl⟩
        have hlt2 : ¬ ((es.length : Int) < (es.length : Int)) := by omega
        go_upto_region 18 with fail
        go_cut [114] (fun s wq => s = .bool false ∧ wl = wq)
        case first =>
          cases b with
          | false =>
            go_wp2_with fail
            go_meet
            case rel => exact ⟨rfl, rfl⟩
          | true =>
            have hs1 := hsm.out rfl
            have hs2 : ((shSum es es.length : Int) != V) = false := by rw [hs1]; simp
            clear hs1
            go_wp2_with fail
            go_meet
            case rel => exact ⟨rfl, rfl⟩
        case rest =>
          obtain ⟨rfl, rfl⟩ := hcut
          clear hat hsm hlt hlt2 hk hr r2 hLl
          have hcd0 := hcd
          go_wp2_with fail
          (with_reducible refine (drawEntriesFrom_any A2 n2 c2 _ hcd0 (by omega) h2).mono ?_)
          rintro e w9 ⟨es2, C, c2', f, t, rfl, ⟨hen2, hez2, hec2⟩, ⟨⟨hf1, hf2⟩, ht1, ht2⟩, hr, b9⟩
          have s9 : wl.heap.size ≤ w9.heap.size := b9.size
          replace hB := hB.trans (Below.mono b9 hB.size)
          replace hcd := hcd.st b9
          clear b9
          clear hcd0
          obtain ⟨P, b2, hP, hPb⟩ : ∃ P b2, (efL es2 f t = P ∧ efB es2 f t = b2) ∧ (b2 = true → (0 ≤ f ∧ 0 ≤ t) ∧ (∀ k (hk : k < P.length), f ≤ P[k].time ∧ P[k].time ≤ t)) := ⟨_, _, ⟨rfl, rfl⟩, fun h => ⟨⟨(ef_bd h).2.1.1, (ef_bd h).2.2.1⟩, fun k hk => ef_in h hk⟩⟩
          have hPn : P.length ≤ es2.length := by rw [← hP.1]; exact ef_len _ _ _
          have hPH := Lib.hid hP
          have hPbH := Lib.hid hPb
          clear hP hPb
          go_wp2_with fail
          (with_reducible refine (iEntriesFrom_w es2 C c2' f t _ hr (by omega) hec2 P b2 hPH.out).mono ?_)
          rintro e w10 ⟨C1, e1, rfl, r1, hPz, b10⟩
          have s10 : w9.heap.size ≤ w10.heap.size := b10.size
          replace hB := hB.trans (Below.mono b10 hB.size)
          replace hcd := hcd.st b10
          replace hr := hr.st b10
          clear b10
          go_wp2_with fail
          (with_reducible refine (sEntriesFrom_w es2 C c2' f t _ hr (by omega) P b2 hPH.out).mono ?_)
          rintro e w11 ⟨C2, e2, rfl, r2, b11⟩
          have s11 : w10.heap.size ≤ w11.heap.size := b11.size
          replace hB := hB.trans (Below.mono b11 hB.size)
          replace hcd := hcd.st b11
          replace hr := hr.st b11
          replace r1 := r1.st b11
          clear b11
          go_wp2_with fail
          (with_reducible refine (pSameLog_t P C1 C2 P.length P.length e1 e2 _ rfl rfl r1 r2 hPz).mono ?_)
          rintro e w12 ⟨rfl, b12⟩
          have s12 : w11.heap.size ≤ w12.heap.size := b12.size
          replace hB := hB.trans (Below.mono b12 hB.size)
          replace hcd := hcd.st b12
          replace hr := hr.st b12
          replace r1 := r1.st b12
          replace r2 := r2.st b12
          clear b12
          clear r1
          go_upto_if 144 with fail
          go_cut [] (fun wq => Below w.heap.size w wq ∧ CodeAt wq wq.heap.size A2 n2)
          case first =>
            cases b2 with
            | false =>
              go_wp2_with fail
              go_meet
              case rel => exact ⟨hB, hcd⟩
            | true =>
              obtain ⟨⟨hf0, ht0⟩, hin⟩ := hPbH.out rfl
              have hinH := Lib.hid hin
              have hefB := Lib.hid hPH.out.2
              have hefL := Lib.hid hPH.out.1
              clear hin hPH hPbH
              go_wp2_with fail
              go_loopw [147] (fun i wr => ∃ k : Nat, k ≤ P.length ∧ i = .int .i64 (k : Int) ∧ Below w.heap.size w wr ∧ CodeAt wr wr.heap.size A2 n2 ∧ RdE wr 0 wr.heap.size C es2 ∧ RdE wr 0 wr.heap.size C2 P) (fun i _ => P.length - (intOf i).toNat)
              case atStart => exact ⟨0, Nat.zero_le _, rfl, hB, hcd, hr.std, r2.std⟩
              case round =>
                clear hB hcd hr r2
                obtain ⟨k, hk, rfl, hB, hcd, hr, r2⟩ := hrel
                by_cases hlt : k < P.length
                · obtain ⟨b0, off, hA, _, _, hc⟩ := r2 (by omega)
                  obtain ⟨A3, c3, A4, c4, x0, x1, x2, x3, x4, -, -⟩ := hc k hlt
                  obtain ⟨g1, g2⟩ := hinH.out k hlt
                  have i0 : (0 : Int) ≤ (k : Int) := by omega
                  have i1 : (k : Int) < (P.length : Int) := by omega
                  subst hA
                  clear hc
                  obtain ⟨ek, hek⟩ : ∃ ek, ek = P[k] := ⟨_, rfl⟩
                  rw [← hek] at x0 x1 x2 x3 x4 g1 g2
                  clear hek
                  have g3 : ¬ ek.time < f := by omega
                  have g4 : ¬ t < ek.time := by omega
                  have bE := Bk.new wr 42 #[.int .i64 ek.time, .int .i64 ek.msg, .int .i64 ek.part, .slice A3 ek.seen.length c3, .slice A4 ek.shown.length c4]
                  have y0 := bE.cell 0
                  have yl := bE.lt
                  simp at y0
                  have hall := Lib.hid (And.intro (hB.alloc hB.size (.cells #[.int .i64 ek.time, .int .i64 ek.msg, .int .i64 ek.part, .slice A3 ek.seen.length c3, .slice A4 ek.shown.length c4] 42)) (And.intro (hcd.st ((Below.refl _ _).alloc (Nat.le_refl _) (.cells #[.int .i64 ek.time, .int .i64 ek.msg, .int .i64 ek.part, .slice A3 ek.seen.length c3, .slice A4 ek.shown.length c4] 42))) (And.intro (hr.alloc (.cells #[.int .i64 ek.time, .int .i64 ek.msg, .int .i64 ek.part, .slice A3 ek.seen.length c3, .slice A4 ek.shown.length c4] 42)).std (r2.alloc (.cells #[.int .i64 ek.time, .int .i64 ek.msg, .int .i64 ek.part, .slice A3 ek.seen.length c3, .slice A4 ek.shown.length c4] 42)).std)))
                  clear hB hcd hr r2 bE
                  go_wp2_with fail
                  go_roundw
                  case rel => exact ⟨k + 1, by omega, by go_num, hall.out.1, hall.out.2.1, hall.out.2.2.1, hall.out.2.2.2⟩
                  case measure => simp [intOf]; omega
                · obtain rfl : k = P.length := by omega
                  obtain ⟨wm, rfl⟩ : ∃ wm, wm = wr := ⟨_, rfl⟩
                  have hlt3 : ¬ ((P.length : Int) < (P.length : Int)) := by omega
                  clear hinH hk hlt
                  by_cases ht : t < 10000
                  · have v1 : IntKind.i64.wrap (t + 1) = t + 1 := IntWalk.i64_in _ (by omega)
                    obtain ⟨Q, T, hQ, hT, hsp⟩ : ∃ Q T, (efL es2 (t + 1) 10000 = Q ∧ efB es2 (t + 1) 10000 = true) ∧ (efL es2 f 10000 = T ∧ efB es2 f 10000 = true) ∧ (f ≤ t → P.length + Q.length = T.length) := ⟨_, _, ⟨rfl, (ef_rest hefB.out ht).1⟩, ⟨rfl, (ef_rest hefB.out ht).2⟩, fun h => by rw [← hefL.out]; exact ef_split hefB.out h ht⟩
                    have hQn : Q.length ≤ es2.length := by rw [← hQ.1]; exact ef_len _ _ _
                    have hQH := Lib.hid hQ
                    have hTH := Lib.hid hT
                    have hspH := Lib.hid hsp
                    clear hQ hT hsp hefB hefL
                    go_wp2_with fail
                    (with_reducible refine (iEntriesFrom_w es2 C c2' (t + 1) 10000 _ hr (by omega) hec2 Q true hQH.out).mono ?_)
                    rintro e w13 ⟨C3, e3', rfl, r3, hQz, b13⟩
                    have s13 : wm.heap.size ≤ w13.heap.size := b13.size
                    replace hB := hB.trans (Below.mono b13 hB.size)
                    replace hcd := hcd.st b13
                    replace hr := hr.st b13
                    replace r2 := r2.st b13
                    clear b13
                    go_wp2_with fail
                    (with_reducible refine (sEntriesFrom_w es2 C c2' (t + 1) 10000 _ hr (by omega) Q true hQH.out).mono ?_)
                    rintro e w14 ⟨C4, e4', rfl, r4, b14⟩
                    have s14 : w13.heap.size ≤ w14.heap.size := b14.size
                    replace hB := hB.trans (Below.mono b14 hB.size)
                    replace hcd := hcd.st b14
                    replace hr := hr.st b14
                    replace r2 := r2.st b14
                    replace r3 := r3.st b14
                    clear b14
                    clear v1
                    go_wp2_with fail
                    (with_reducible refine (iEntriesFrom_w es2 C c2' f 10000 _ hr (by omega) hec2 T true hTH.out).mono ?_)
                    rintro e w15 ⟨C5, e5', rfl, r5, hTz, b15⟩
                    have s15 : w14.heap.size ≤ w15.heap.size := b15.size
                    replace hB := hB.trans (Below.mono b15 hB.size)
                    replace hcd := hcd.st b15
                    replace hr := hr.st b15
                    replace r2 := r2.st b15
                    replace r3 := r3.st b15
                    replace r4 := r4.st b15
                    clear b15
                    go_wp2_with fail
                    (with_reducible refine (sEntriesFrom_w es2 C c2' f 10000 _ hr (by omega) T true hTH.out).mono ?_)
                    rintro e w16 ⟨C6, e6', rfl, r6, b16⟩
                    have s16 : w15.heap.size ≤ w16.heap.size := b16.size
                    replace hB := hB.trans (Below.mono b16 hB.size)
                    replace hcd := hcd.st b16
                    replace hr := hr.st b16
                    replace r2 := r2.st b16
                    replace r3 := r3.st b16
                    replace r4 := r4.st b16
                    replace r5 := r5.st b16
                    clear b16
                    clear hr r2 hQH hTH
                    go_wp2_with fail
                    (with_reducible refine (pSameLog_t Q C3 C4 Q.length Q.length e3' e4' _ rfl rfl r3 r4 hQz).mono ?_)
                    rintro e w17 ⟨rfl, b17⟩
                    have s17 : w16.heap.size ≤ w17.heap.size := b17.size
                    replace hB := hB.trans (Below.mono b17 hB.size)
                    replace hcd := hcd.st b17
                    replace r3 := r3.st b17
                    replace r4 := r4.st b17
                    replace r5 := r5.st b17
                    replace r6 := r6.st b17
                    clear b17
                    go_wp2_with fail
                    (with_reducible refine (pSameLog_t T C5 C6 T.length T.length e5' e6' _ rfl rfl r5 r6 hTz).mono ?_)
                    rintro e w18 ⟨rfl, b18⟩
                    have s18 : w17.heap.size ≤ w18.heap.size := b18.size
                    replace hB := hB.trans (Below.mono b18 hB.size)
                    replace hcd := hcd.st b18
                    replace r3 := r3.st b18
                    replace r4 := r4.st b18
                    replace r5 := r5.st b18
                    replace r6 := r6.st b18
                    clear b18
                    clear r3 r4 r5 r6
                    have hall := Lib.hid (And.intro hB hcd)
                    clear hB hcd
                    by_cases hft : f ≤ t
                    · have v2 : IntKind.i64.wrap ((P.length : Int) + (Q.length : Int)) = (P.length : Int) + (Q.length : Int) := IntWalk.i64_in _ (by omega)
                      have v3 : ((P.length : Int) + (Q.length : Int) != (T.length : Int)) = false := by have := hspH.out hft; simp; omega
                      go_wp2_with fail
                      go_meet
                      case rel => exact hall.out
                    · go_wp2_with fail
                      go_meet
                      case rel => exact hall.out
                  · have hall := Lib.hid (And.intro hB hcd)
                    clear hB hcd hr r2
                    go_wp2_with fail
                    go_meet
                    case rel => exact hall.out
          case rest =>
            clear hB hcd hr r2 hPH hPbH hPn
            obtain ⟨hB, hcd⟩ := hcut
            obtain ⟨wn, rfl⟩ : ∃ wn, wn = wc := ⟨_, rfl⟩
            go_wp2_with fail
            (with_reducible refine (drawIsEntry_any A2 n2 c2 _ hcd (by omega) h2).mono ?_)
            rintro e w19 ⟨t1, m1, q1, ys, zs, D1, d1, D2, d2, rfl, ⟨hy9, hz9⟩, ry, rz, b19⟩
            have s19 : wn.heap.size ≤ w19.heap.size := b19.size
            replace hB := hB.trans (Below.mono b19 hB.size)
            clear b19
            clear hcd
            obtain ⟨v, hv⟩ : ∃ v, enB t1 m1 q1 ys zs = v := ⟨_, rfl⟩
            have hvH := Lib.hid hv
            clear hv
            go_upto_region 40 with fail
            obtain ⟨w20, hw20⟩ : ∃ u, u = w19.alloc (.cells #[.int .i64 t1, .int .i64 m1, .int .i64 q1, .slice D1 ys.length d1, .slice D2 zs.length d2] 42) := ⟨_, rfl⟩
            rw [← hw20]
            have e20 : w20.heap.size = w19.heap.size + 1 := by rw [hw20]; simp
            have s20 : w19.heap.size + 1 ≤ w20.heap.size := by omega
            have b20 : Below w19.heap.size w19 w20 := by rw [hw20]; exact (Below.refl _ _).alloc (Nat.le_refl _) _
            have bE : Bk w20 (w19.heap.size) 42 #[.int .i64 t1, .int .i64 m1, .int .i64 q1, .slice D1 ys.length d1, .slice D2 zs.length d2] := by rw [hw20]; exact Bk.new _ _ _
            replace hB := hB.trans (Below.mono b20 hB.size)
            replace ry := ry.st b20
            replace rz := rz.st b20
            replace e20 := Lib.hid e20
            clear b20 hw20
            have yl := bE.lt
            have y0 := bE.cell 0
            have y1 := bE.cell 1
            have y2 := bE.cell 2
            have y3 := bE.cell 3
            have y4 := bE.cell 4
            simp at y0 y1 y2 y3 y4
            clear bE
            go_region_held3 (fun w' => w'.cell? ⟨w19.heap.size, 0, none⟩ = some (.int .i64 t1) ∧ w'.cell? ⟨w19.heap.size, 1, none⟩ = some (.int .i64 m1) ∧ w'.cell? ⟨w19.heap.size, 2, none⟩ = some (.int .i64 q1) ∧ w'.cell? ⟨w19.heap.size, 3, none⟩ = some (.slice D1 ys.length d1) ∧ w'.cell? ⟨w19.heap.size, 4, none⟩ = some (.slice D2 zs.length d2))
              (((try go_split_ands); (try dsimp only); (repeat' apply And.intro) <;> (first | assumption | ((refine (hc7 _ _ ?_).trans ?_) <;> assumption) | ((refine (hc8 _ _ ?_).trans ((hc7 _ _ ?_).trans ?_)) <;> assumption))))
              (first
                | (go_at_call 42; ((with_reducible refine (iIsEntry_v t1 m1 q1 ys D1 d1 zs D2 d2 _ ry.drew rz.drew (by omega) (by omega) v hvH.out).mono ?_); rintro e w7 ⟨rfl, hb7⟩; (have hc7 := (bcell hb7).1); (have ryb := ry.drew.st hb7); (have rzb := rz.drew.st hb7); (have ylb : w19.heap.size < w7.heap.size := Nat.lt_of_lt_of_le yl hb7.size)))
                | (go_at_call 43; ((with_reducible refine (sIsEntry_v t1 m1 q1 ys D1 d1 zs D2 d2 _ ry.drew rz.drew (by omega) (by omega) v hvH.out).mono ?_); rintro e w7 ⟨rfl, hb7⟩; (have hc7 := (bcell hb7).1); (have ryb := ry.drew.st hb7); (have rzb := rz.drew.st hb7); (have ylb : w19.heap.size < w7.heap.size := Nat.lt_of_lt_of_le yl hb7.size)))
                | (go_at_call 43; ((with_reducible refine (sIsEntry_v t1 m1 q1 ys D1 d1 zs D2 d2 _ ryb rzb (by omega) (by omega) v hvH.out).mono ?_); rintro e w8 ⟨rfl, hb8⟩; (have hc8 := (bcell hb8).1)))
                | (go_at_call 42; ((with_reducible refine (iIsEntry_v t1 m1 q1 ys D1 d1 zs D2 d2 _ ryb rzb (by omega) (by omega) v hvH.out).mono ?_); rintro e w8 ⟨rfl, hb8⟩; (have hc8 := (bcell hb8).1))))
            all_goals
              have hBH := Lib.hid (hB.drew.trans ((hb7.trans (hb8.mono hb7.size)).mono hB.size))
              clear hb7 hb8 hc7 hc8 ry rz ryb rzb hB
              go_wp2_with fail
              go_ret
              exact ⟨by simp, hBH.out⟩
  · go_wp2_with fail
    go_ret
    exact ⟨rfl, Below.refl _ _⟩
end Go.Proofs.Ytbagliaelolhcaa
