/-
  The walk through FnTraces. The conditions are bounds on lengths.
-/
import Derived.Test.YteajjbfecpffeaaCurFf
import Derived.Test.YteajjbfecpffeaaFactT
import Derived.Test.YteajjbfecpffeaaLawQ
import Derived.Test.YteajjbfecpffeaaTrace
import Derived.Test.YteajjbfecpffeaaCounts
import Derived.Deep.DeepCutAuto
import Derived.Deep.CutBlock
import Derived.Deep.QuietTactic
import Derived.BigQuiet
namespace Go.Proofs.Yteajjbfecpffeaa
open Go.RowKit Go.ChangeShapes Go.WideShapes
set_option linter.unusedVariables false
set_option linter.unusedSimpArgs false

theorem iTraceOf_w (es : List (List Ent)) (A : Option Addr) (c : Nat) (m q : Int) {l h : Nat} (w : World) (hr : RdEE w l h A es) (hl : esszL es ≤ 1048576) (L : List Int) (b : Bool) (hL : trL es m q = L) (hb : paB es m q = b) :
    Calls Try.prog 14 #[.slice A es.length c, .int .i64 m, .int .i64 q] w fun e w' => ∃ A c, e = .returned (.tuple #[.slice A L.length c, .bool b]) ∧ Rd w' 0 w'.heap.size A L ∧ L.length ≤ 1048576 ∧ Below w.heap.size w w' := by
  subst hL hb
  refine (iTraceOf_any es A c m q w hr hl).mono ?_
  rintro e w' ⟨A', c', rfl, ho, hL, hb⟩
  exact ⟨A', c', rfl, ho.rd'.std, hL, hb⟩
theorem iTimesOf_w (es : List (List Ent)) (A : Option Addr) (c : Nat) (m q : Int) {l h : Nat} (w : World) (hr : RdEE w l h A es) (hl : esszL es ≤ 1048576) (L : List Int) (b : Bool) (hL : tmL es m q = L) (hb : paB es m q = b) :
    Calls Try.prog 16 #[.slice A es.length c, .int .i64 m, .int .i64 q] w fun e w' => ∃ A c, e = .returned (.tuple #[.slice A L.length c, .bool b]) ∧ Rd w' 0 w'.heap.size A L ∧ L.length ≤ 1048576 ∧ Below w.heap.size w w' := by
  subst hL hb
  refine (iTimesOf_any es A c m q w hr hl).mono ?_
  rintro e w' ⟨A', c', rfl, ho, hL, hb⟩
  exact ⟨A', c', rfl, ho.rd'.std, hL, hb⟩
theorem iLastTower_w (es : List (List Ent)) (A : Option Addr) (c : Nat) (m q : Int) {l h : Nat} (w : World) (hr : RdEE w l h A es) (hl : esszL es ≤ 1048576) (V : Int) (b : Bool) (hV : ltV es m q = V) (hb : ltB es m q = b) :
    Calls Try.prog 18 #[.slice A es.length c, .int .i64 m, .int .i64 q] w fun e w' => e = .returned (.tuple #[.int .i64 V, .bool b]) ∧ Below w.heap.size w w' := by
  subst hV hb; exact iLastTower_any es A c m q w hr hl
theorem iFirstFault_w (es : List (List Ent)) (A : Option Addr) (c : Nat) (m q : Int) {l h : Nat} (w : World) (hr : RdEE w l h A es) (hl : esszL es ≤ 1048576) (K T : Int) (b : Bool) (hK : ffK es m q = K ∧ ffT es m q = T ∧ ffB es m q = b) :
    Calls Try.prog 21 #[.slice A es.length c, .int .i64 m, .int .i64 q] w fun e w' => e = .returned (.tuple #[.int .i64 K, .int .i64 T, .bool b]) ∧ Below w.heap.size w w' := by
  obtain ⟨rfl, rfl, rfl⟩ := hK; exact iFirstFault_any es A c m q w hr hl
theorem iLineFaults_w (es : List (List Ent)) (A : Option Addr) (c : Nat) {l h : Nat} (w : World) (hr : RdEE w l h A es) (hl : esszL es ≤ 1048576) (hb : logsB es = true) :
    Calls Try.prog 24 #[.slice A es.length c] w fun e w' => ∃ A c, e = .returned (.tuple #[.slice A (lfL es).length c, .bool true]) ∧ RdI w' 0 w'.heap.size A (lfL es) ∧ iszL (lfL es) ≤ 1048576 ∧ Below w.heap.size w w' := by
  refine (iLineFaults_any es A c w hr hl).mono ?_
  rw [hb, llL_yes hb]
  rintro e w' ⟨A', c', rfl, ho, hL, hb⟩
  exact ⟨A', c', rfl, ho.rd'.std, hL, hb⟩
theorem sTraceOf_w (es : List (List Ent)) (A : Option Addr) (c : Nat) (m q : Int) {l h : Nat} (w : World) (hr : RdEE w l h A es) (hl : esszL es ≤ 1048576) (L : List Int) (b : Bool) (hL : trL es m q = L) (hb : paB es m q = b) :
    Calls Try.prog 15 #[.slice A es.length c, .int .i64 m, .int .i64 q] w fun e w' => ∃ A c, e = .returned (.tuple #[.slice A L.length c, .bool b]) ∧ Rd w' 0 w'.heap.size A L ∧ L.length ≤ 1048576 ∧ Below w.heap.size w w' := by
  subst hL hb
  refine (sTraceOf_any es A c m q w hr hl).mono ?_
  rintro e w' ⟨A', c', rfl, ho, hL, hb⟩
  exact ⟨A', c', rfl, ho, hL, hb⟩
theorem sTimesOf_w (es : List (List Ent)) (A : Option Addr) (c : Nat) (m q : Int) {l h : Nat} (w : World) (hr : RdEE w l h A es) (hl : esszL es ≤ 1048576) (L : List Int) (b : Bool) (hL : tmL es m q = L) (hb : paB es m q = b) :
    Calls Try.prog 17 #[.slice A es.length c, .int .i64 m, .int .i64 q] w fun e w' => ∃ A c, e = .returned (.tuple #[.slice A L.length c, .bool b]) ∧ Rd w' 0 w'.heap.size A L ∧ L.length ≤ 1048576 ∧ Below w.heap.size w w' := by
  subst hL hb
  refine (sTimesOf_any es A c m q w hr hl).mono ?_
  rintro e w' ⟨A', c', rfl, ho, hL, hb⟩
  exact ⟨A', c', rfl, ho, hL, hb⟩
theorem sLastTower_w (es : List (List Ent)) (A : Option Addr) (c : Nat) (m q : Int) {l h : Nat} (w : World) (hr : RdEE w l h A es) (hl : esszL es ≤ 1048576) (V : Int) (b : Bool) (hV : ltV es m q = V) (hb : ltB es m q = b) :
    Calls Try.prog 19 #[.slice A es.length c, .int .i64 m, .int .i64 q] w fun e w' => e = .returned (.tuple #[.int .i64 V, .bool b]) ∧ Below w.heap.size w w' := by
  subst hV hb; exact sLastTower_any es A c m q w hr hl
theorem sFirstFault_w (es : List (List Ent)) (A : Option Addr) (c : Nat) (m q : Int) {l h : Nat} (w : World) (hr : RdEE w l h A es) (hl : esszL es ≤ 1048576) (K T : Int) (b : Bool) (hK : ffK es m q = K ∧ ffT es m q = T ∧ ffB es m q = b) :
    Calls Try.prog 22 #[.slice A es.length c, .int .i64 m, .int .i64 q] w fun e w' => e = .returned (.tuple #[.int .i64 K, .int .i64 T, .bool b]) ∧ Below w.heap.size w w' := by
  obtain ⟨rfl, rfl, rfl⟩ := hK; exact sFirstFault_any es A c m q w hr hl
theorem sLineFaults_w (es : List (List Ent)) (A : Option Addr) (c : Nat) {l h : Nat} (w : World) (hr : RdEE w l h A es) (hl : esszL es ≤ 1048576) (hb : logsB es = true) :
    Calls Try.prog 25 #[.slice A es.length c] w fun e w' => ∃ A c, e = .returned (.tuple #[.slice A (lfL es).length c, .bool true]) ∧ RdI w' 0 w'.heap.size A (lfL es) ∧ iszL (lfL es) ≤ 1048576 ∧ Below w.heap.size w w' := by
  refine (sLineFaults_any es A c w hr hl).mono ?_
  rw [hb, llL_yes hb]
  rintro e w' ⟨A', c', rfl, ho, hL, hb⟩
  exact ⟨A', c', rfl, ho, hL, hb⟩
theorem sFindEntry_w (es : List Ent) (A : Option Addr) (n c : Nat) (m p : Int) {l h : Nat} (w : World) (hn : n = es.length) (hr : RdE w l h A es) (hl : eszL es ≤ 1048576) (V : Int) (b : Bool) (hV : feB es m p = b ∧ feV es m p = V) :
    Calls Try.prog 27 #[.slice A n c, .int .i64 m, .int .i64 p] w fun e w' => e = .returned (.tuple #[.int .i64 V, .bool b]) ∧ Below w.heap.size w w' := by
  obtain ⟨rfl, rfl⟩ := hV
  subst hn; exact sFindEntry_any es A c m p w hr hl
theorem qInts_q (xs ys : List Int) (A A' : Option Addr) (k k' c c' : Nat) {l h l' h' : Nat} (w : World) (n : Nat) (hk : k = xs.length) (hk' : k' = ys.length) (hx : Rd w l h A xs) (hy : Rd w l' h' A' ys) (hl : xs.length ≤ 1048576) (hl' : ys.length ≤ 1048576) (v : Bool) (hv : eqL xs ys = v) :
    Calls Try.prog 23 #[.slice A k c, .slice A' k' c'] (w.drewN n) fun e w'' => e = .returned (.bool v) ∧ ∃ m, w'' = w.drewN m := by
  subst hk hk' hv
  exact Calls.quiet_of ((qInts_any xs ys A A' c c' (w.drewN n) (hx.drewN n) (hy.drewN n) (by omega) (by omega)).mono fun e w' ⟨he, m, hm⟩ => ⟨he, m, hm.symm⟩)
set_option maxRecDepth 100000 in
set_option maxHeartbeats 16000000 in
theorem fnTraces_walk (A1 A2 : Option Addr) (n1 c1 n2 c2 : Nat) (w : World) (h1 : n1 ≤ c1) (h2 : n2 ≤ c2) (m1 : n1 ≤ 9223372036854775807) (m2 : n2 ≤ 9223372036854775807) (hcd1 : CodeAt w w.heap.size A1 n1) (hcd2 : CodeAt w w.heap.size A2 n2) :
    Calls Try.prog 4 #[.slice A1 n1 c1, .slice A2 n2 c2] w fun e w' => e = .returned (.bool true) ∧ Below w.heap.size w w' := by
  go_enter Try.func4, Try.ntmps4
  obtain ⟨z, hz⟩ : ∃ z, wrap64 ((n1 : Int) + (n2 : Int)) = z := ⟨_, rfl⟩
  by_cases hbig : (1048576 : Int) < z
  · go_wp2_with fail
    go_ret
    exact ⟨rfl, Below.refl _ _⟩
  · go_wp2_with fail
    clear hz hbig
    have hB := Below.refl w.heap.size w
    have hcd := hcd2
    (with_reducible refine (drawTraceOf_any A1 n1 c1 _ hcd1 m1 h1).mono ?_)
    rintro e w1 ⟨es, A, c, m, q, rfl, ⟨hen, hez, hec⟩, hr, b1⟩
    have s1 : w.heap.size ≤ w1.heap.size := b1.size
    replace hB := hB.trans (Below.mono b1 hB.size)
    replace hcd := hcd.st b1
    clear b1 hcd1
    obtain ⟨T, hT⟩ : ∃ T, trL es m q = T := ⟨_, rfl⟩
    obtain ⟨U, hU⟩ : ∃ U, tmL es m q = U := ⟨_, rfl⟩
    obtain ⟨b, hb⟩ : ∃ b, paB es m q = b := ⟨_, rfl⟩
    obtain ⟨V, hV⟩ : ∃ V, ltV es m q = V := ⟨_, rfl⟩
    obtain ⟨t, ht⟩ : ∃ t, ltB es m q = t := ⟨_, rfl⟩
    have hth : Hid (t = true → b = true) := Lib.hid fun h => by subst ht; subst hb; exact ltB_pa h
    have hTH := Lib.hid hT
    have hUH := Lib.hid hU
    have hbH := Lib.hid hb
    have hVH := Lib.hid hV
    have htH := Lib.hid ht
    clear hT hU hb hV ht
    go_wp2_with fail
    (with_reducible refine (iTraceOf_w es A c m q _ hr (by omega) T b hTH.out hbH.out).mono ?_)
    rintro e w2 ⟨B1, d1, rfl, r1, hTl1, b2⟩
    have s2 : w1.heap.size ≤ w2.heap.size := b2.size
    replace hB := hB.trans (Below.mono b2 hB.size)
    replace hcd := hcd.st b2
    replace hr := hr.st b2
    clear b2
    go_wp2_with fail
    (with_reducible refine (sTraceOf_w es A c m q _ hr (by omega) T b hTH.out hbH.out).mono ?_)
    rintro e w3 ⟨B2, d2, rfl, r2, hTl2, b3⟩
    have s3 : w2.heap.size ≤ w3.heap.size := b3.size
    replace hB := hB.trans (Below.mono b3 hB.size)
    replace hcd := hcd.st b3
    replace hr := hr.st b3
    replace r1 := r1.st b3
    clear b3
    go_wp2_with fail
    (with_reducible refine (iTimesOf_w es A c m q _ hr (by omega) U b hUH.out hbH.out).mono ?_)
    rintro e w4 ⟨C1, g1, rfl, u1, hUl1, b4⟩
    have s4 : w3.heap.size ≤ w4.heap.size := b4.size
    replace hB := hB.trans (Below.mono b4 hB.size)
    replace hcd := hcd.st b4
    replace hr := hr.st b4
    replace r1 := r1.st b4
    replace r2 := r2.st b4
    clear b4
    go_wp2_with fail
    (with_reducible refine (sTimesOf_w es A c m q _ hr (by omega) U b hUH.out hbH.out).mono ?_)
    rintro e w5 ⟨C2, g2, rfl, u2, hUl2, b5⟩
    have s5 : w4.heap.size ≤ w5.heap.size := b5.size
    replace hB := hB.trans (Below.mono b5 hB.size)
    replace hcd := hcd.st b5
    replace hr := hr.st b5
    replace r1 := r1.st b5
    replace r2 := r2.st b5
    replace u1 := u1.st b5
    clear b5
    go_wp2_with fail
    (with_reducible refine (iLastTower_w es A c m q _ hr (by omega) V t hVH.out htH.out).mono ?_)
    rintro e w6 ⟨rfl, b6⟩
    have s6 : w5.heap.size ≤ w6.heap.size := b6.size
    replace hB := hB.trans (Below.mono b6 hB.size)
    replace hcd := hcd.st b6
    replace hr := hr.st b6
    replace r1 := r1.st b6
    replace r2 := r2.st b6
    replace u1 := u1.st b6
    replace u2 := u2.st b6
    clear b6
    go_wp2_with fail
    (with_reducible refine (sLastTower_w es A c m q _ hr (by omega) V t hVH.out htH.out).mono ?_)
    rintro e w7 ⟨rfl, b7⟩
    have s7 : w6.heap.size ≤ w7.heap.size := b7.size
    replace hB := hB.trans (Below.mono b7 hB.size)
    replace hcd := hcd.st b7
    replace hr := hr.st b7
    replace r1 := r1.st b7
    replace r2 := r2.st b7
    replace u1 := u1.st b7
    replace u2 := u2.st b7
    clear b7
    go_wp2_with fail
    (with_reducible refine (drawFirstFault_any A2 n2 c2 _ hcd m2 h2).mono ?_)
    rintro e w8 ⟨bs, D, e9, x, y, rfl, ⟨han, haz, hac⟩, ha, b8⟩
    have s8 : w7.heap.size ≤ w8.heap.size := b8.size
    replace hB := hB.trans (Below.mono b8 hB.size)
    replace hcd := hcd.st b8
    replace hr := hr.st b8
    replace r1 := r1.st b8
    replace r2 := r2.st b8
    replace u1 := u1.st b8
    replace u2 := u2.st b8
    clear b8
    clear hcd
    obtain ⟨K, hK⟩ : ∃ K, ffK bs x y = K := ⟨_, rfl⟩
    obtain ⟨R, hR⟩ : ∃ R, ffT bs x y = R := ⟨_, rfl⟩
    obtain ⟨v, hv⟩ : ∃ v, ffB bs x y = v := ⟨_, rfl⟩
    have hKH := Lib.hid (And.intro hK (And.intro hR hv))
    clear hK hR hv
    go_wp2_with fail
    (with_reducible refine (iFirstFault_w bs D e9 x y _ ha (by omega) K R v hKH.out).mono ?_)
    rintro e w9 ⟨rfl, b9⟩
    have s9 : w8.heap.size ≤ w9.heap.size := b9.size
    replace hB := hB.trans (Below.mono b9 hB.size)
    replace hr := hr.st b9
    replace r1 := r1.st b9
    replace r2 := r2.st b9
    replace u1 := u1.st b9
    replace u2 := u2.st b9
    replace ha := ha.st b9
    clear b9
    go_wp2_with fail
    (with_reducible refine (sFirstFault_w bs D e9 x y _ ha (by omega) K R v hKH.out).mono ?_)
    rintro e w10 ⟨rfl, b10⟩
    have s10 : w9.heap.size ≤ w10.heap.size := b10.size
    replace hB := hB.trans (Below.mono b10 hB.size)
    replace hr := hr.st b10
    replace r1 := r1.st b10
    replace r2 := r2.st b10
    replace u1 := u1.st b10
    replace u2 := u2.st b10
    replace ha := ha.st b10
    clear b10
    go_upto_region 13 with fail
    go_cut [176] (fun s6 wq => s6 = .bool false ∧ RdEE wq 0 wq.heap.size D bs ∧ Below w.heap.size w wq ∧ RdEE wq 0 wq.heap.size A es ∧ Rd wq 0 wq.heap.size B2 T ∧ Rd wq 0 wq.heap.size C2 U)
    case first =>
      as_aux_lemma =>
        go_wp2_with fail
        (with_reducible refine (qInts_t T B1 B2 T.length T.length d1 d2 _ rfl rfl r1 r2 hTl1).mono ?_)
        rintro e w11 ⟨rfl, b11⟩
        have s11 : w10.heap.size ≤ w11.heap.size := b11.size
        replace hB := hB.trans (Below.mono b11 hB.size)
        replace hr := hr.st b11
        replace r1 := r1.st b11
        replace r2 := r2.st b11
        replace u1 := u1.st b11
        replace u2 := u2.st b11
        replace ha := ha.st b11
        clear b11
        go_wp2_with fail
        (with_reducible refine (qInts_t U C1 C2 U.length U.length g1 g2 _ rfl rfl u1 u2 hUl1).mono ?_)
        rintro e w12 ⟨rfl, b12⟩
        have s12 : w11.heap.size ≤ w12.heap.size := b12.size
        replace hB := hB.trans (Below.mono b12 hB.size)
        replace hr := hr.st b12
        replace r1 := r1.st b12
        replace r2 := r2.st b12
        replace u1 := u1.st b12
        replace u2 := u2.st b12
        replace ha := ha.st b12
        clear b12
        clear r1 u1
        replace hr := hr.std
        replace ha := ha.std
        replace r2 := r2.std
        replace u2 := u2.std
        have hall := Lib.hid (And.intro hB (And.intro hr (And.intro r2 (And.intro u2 ha))))
        clear hB hr r2 u2 ha
        have ht0 := hth.out
        cases t with
        | true =>
          obtain rfl := ht0 rfl
          go_wp2_with fail
          go_meet
          case rel => exact ⟨rfl, hall.out.2.2.2.2, hall.out.1, hall.out.2.1, hall.out.2.2.1, hall.out.2.2.2.1⟩
        | false =>
          clear ht0
          go_wp2_with fail
          go_meet
          case rel => exact ⟨by simp, hall.out.2.2.2.2, hall.out.1, hall.out.2.1, hall.out.2.2.1, hall.out.2.2.2.1⟩
    case rest =>
      as_aux_lemma =>
        clear hB hr r1 r2 u1 u2 ha
        obtain ⟨rfl, ha, hB, hr, r2, u2⟩ := hcut
        obtain ⟨wa, rfl⟩ : ∃ u, u = wc := ⟨_, rfl⟩
        go_upto_if 177 with fail
        go_cut [] (fun wq => Below w.heap.size w wq ∧ RdEE wq 0 wq.heap.size A es ∧ Rd wq 0 wq.heap.size B2 T ∧ Rd wq 0 wq.heap.size C2 U)
        case first =>
          as_aux_lemma =>
            cases v with
            | false =>
              have hall := Lib.hid (And.intro hB (And.intro hr (And.intro r2 u2)))
              clear hB hr r2 u2
              go_wp2_with fail
              go_meet
              case rel => exact ⟨hall.out.1, hall.out.2.1, hall.out.2.2.1, hall.out.2.2.2⟩
            | true =>
              have hlg := Lib.hid (ffB_logs hKH.out.2.2).1
              have hln : (lfL bs).length ≤ 720 := lfL_len hlg.out
              go_wp2_with fail
              (with_reducible refine (iLineFaults_w bs D e9 _ ha (by omega) hlg.out).mono ?_)
              rintro e w13 ⟨B3, d3, rfl, r3, hL3, b13⟩
              have s13 : wa.heap.size ≤ w13.heap.size := b13.size
              replace hB := hB.trans (Below.mono b13 hB.size)
              replace ha := ha.st b13
              replace hr := hr.st b13
              replace r2 := r2.st b13
              replace u2 := u2.st b13
              clear b13
              go_wp2_with fail
              (with_reducible refine (sLineFaults_w bs D e9 _ ha (by omega) hlg.out).mono ?_)
              rintro e w14 ⟨B4, d4, rfl, r4, hL4, b14⟩
              have s14 : w13.heap.size ≤ w14.heap.size := b14.size
              replace hB := hB.trans (Below.mono b14 hB.size)
              replace ha := ha.st b14
              replace hr := hr.st b14
              replace r2 := r2.st b14
              replace u2 := u2.st b14
              replace r3 := r3.st b14
              clear b14
              go_wp2_with fail
              (with_reducible refine (qLists_t (lfL bs) B3 B4 (lfL bs).length (lfL bs).length d3 d4 _ rfl rfl r3 r4 hL3).mono ?_)
              rintro e w15 ⟨rfl, b15⟩
              have s15 : w14.heap.size ≤ w15.heap.size := b15.size
              replace hB := hB.trans (Below.mono b15 hB.size)
              replace ha := ha.st b15
              replace hr := hr.st b15
              replace r2 := r2.st b15
              replace u2 := u2.st b15
              replace r3 := r3.st b15
              replace r4 := r4.st b15
              clear b15
              clear r3 ha
              go_wp2_with fail
              go_loopw [33, 202] (fun s i wr => ∃ (k : Nat) (fi : Bool), k ≤ (lfL bs).length ∧ s = .bool fi ∧ i = .int .i64 (k : Int) ∧ Hid (fi = true → ∀ j (hj : j < (lfL bs).length), j < k → ffQ (lfL bs)[j] x y = false) ∧ Below w.heap.size w wr ∧ RdEE wr 0 wr.heap.size A es ∧ Rd wr 0 wr.heap.size B2 T ∧ Rd wr 0 wr.heap.size C2 U ∧ RdI wr 0 wr.heap.size B4 (lfL bs)) (fun _ i _ => (lfL bs).length - (intOf i).toNat)
              case atStart => exact ⟨0, true, Nat.zero_le _, rfl, rfl, Lib.hid (fun _ j hj h => absurd h (by omega)), hB, hr.std, r2.std, u2.std, r4.std⟩
              case round =>
                as_aux_lemma =>
                  clear hB hr r2 u2 r4
                  obtain ⟨k, fi, hk, rfl, rfl, hfi, hB, hr, r2, u2, r4⟩ := hrel
                  by_cases hlt : k < (lfL bs).length
                  · obtain ⟨a1, b1, q1, i1, hx, -⟩ := lfL_at hlt
                    obtain ⟨bL, oL, hB4, _, _, hc⟩ := r4 (by omega)
                    subst hB4
                    obtain ⟨A5, c5, x0, r5⟩ := hc k hlt
                    have hxH := Lib.hid hx
                    rw [hx] at x0 r5
                    obtain ⟨b5, o5, rfl, _, _, hc5⟩ := r5 (by simp)
                    have x1 := hc5 0 (by simp)
                    have x2 := hc5 1 (by simp)
                    have x3 := hc5 2 (by simp)
                    have x4 := hc5 3 (by simp)
                    simp at x0 x1 x2 x3 x4
                    have i0 : (0 : Int) ≤ (k : Int) := by omega
                    have i1b : (k : Int) < ((lfL bs).length : Int) := by omega
                    clear hc hc5 hx r5
                    have hall := Lib.hid (And.intro hB (And.intro hr (And.intro r2 (And.intro u2 r4))))
                    clear hB hr r2 u2 r4
                    by_cases ha1 : a1 = x
                    · have t1 : (a1 == x) = true := by simp [ha1]
                      have ha1H := Lib.hid ha1
                      clear ha1
                      by_cases hb1 : b1 = y
                      · have t2 : (b1 == y) = true := by simp [hb1]
                        have hb1H := Lib.hid hb1
                        clear hb1
                        cases fi with
                        | false =>
                          go_wp2_with fail
                          go_roundw
                          case rel => exact ⟨k + 1, false, by omega, rfl, by go_num, Lib.hid (fun h => absurd h (by simp)), hall.out.1, hall.out.2.1, hall.out.2.2.1, hall.out.2.2.2.1, hall.out.2.2.2.2⟩
                          case measure => simp [intOf]; omega
                        | true =>
                          obtain ⟨hq1, hq2⟩ := ff_first hKH.out.2.2 hlt hxH.out ha1H.out hb1H.out (fun j hj hjk => hfi.out rfl j hj hjk)
                          have t3 : (q1 != K) = false := by rw [← hKH.out.1, hq1]; simp
                          have t4 : ((i1 : Int) != R) = false := by rw [← hKH.out.2.1, hq2]; simp
                          clear hq1 hq2
                          go_wp2_with fail
                          go_roundw
                          case rel => exact ⟨k + 1, false, by omega, rfl, by go_num, Lib.hid (fun h => absurd h (by simp)), hall.out.1, hall.out.2.1, hall.out.2.2.1, hall.out.2.2.2.1, hall.out.2.2.2.2⟩
                          case measure => simp [intOf]; omega
                      · have t2 : (b1 == y) = false := by simp [hb1]
                        have hb1H := Lib.hid hb1
                        clear hb1
                        go_wp2_with fail
                        go_roundw
                        case rel => exact ⟨k + 1, fi, by omega, rfl, by go_num, Lib.hid (fun h j hj hjk => by
                          by_cases e : j = k
                          · subst e; exact ffQ_false hxH.out (fun e2 => hb1H.out e2.2)
                          · exact hfi.out h j hj (by omega)), hall.out.1, hall.out.2.1, hall.out.2.2.1, hall.out.2.2.2.1, hall.out.2.2.2.2⟩
                        case measure => simp [intOf]; omega
                    · have t1 : (a1 == x) = false := by simp [ha1]
                      have ha1H := Lib.hid ha1
                      clear ha1
                      go_wp2_with fail
                      go_roundw
                      case rel => exact ⟨k + 1, fi, by omega, rfl, by go_num, Lib.hid (fun h j hj hjk => by
                        by_cases e : j = k
                        · subst e; exact ffQ_false hxH.out (fun e2 => ha1H.out e2.1)
                        · exact hfi.out h j hj (by omega)), hall.out.1, hall.out.2.1, hall.out.2.2.1, hall.out.2.2.2.1, hall.out.2.2.2.2⟩
                      case measure => simp [intOf]; omega
                  · obtain rfl : k = (lfL bs).length := by omega
                    have hlt3 : ¬ (((lfL bs).length : Int) < ((lfL bs).length : Int)) := by omega
                    cases fi with
                    | true =>
                      exact absurd (ff_must hKH.out.2.2 (fun j hj => hfi.out rfl j hj hj)) id
                    | false =>
                      have hall := Lib.hid (And.intro hB (And.intro hr (And.intro r2 u2)))
                      clear hB hr r2 u2
                      clear r4
                      go_wp2_with fail
                      go_meet
                      case rel => exact ⟨hall.out.1, hall.out.2.1, hall.out.2.2.1, hall.out.2.2.2⟩
        case rest =>
          as_aux_lemma =>
            clear hB hr r2 u2 ha hKH han haz hac
            obtain ⟨hB, hr, r2, u2⟩ := hcut
            obtain ⟨wb, rfl⟩ : ∃ u, u = wc := ⟨_, rfl⟩
            cases b with
            | false =>
              have hBH := Lib.hid hB
              clear hB hr r2 u2
              go_wp2_with fail
              go_ret
              exact ⟨rfl, hBH.out⟩
            | true =>
              obtain ⟨hl1, hl2, hl3, hl4⟩ := pa_lens hbH.out
              rw [hTH.out] at hl1
              rw [hUH.out] at hl2
              have t1 : ((T.length : Int) != (es.length : Int)) = false := by simp [hl1]
              have t2 : ((U.length : Int) != (es.length : Int)) = false := by simp [hl2]
              have hl1H := Lib.hid hl1
              have hl2H := Lib.hid hl2
              clear hl1 hl2
              go_wp2_with fail
              clear t1 t2
              go_loopw [36, 251] (fun s i wr => ∃ (k : Nat) (sn : Int), k ≤ es.length ∧ s = .int .i64 sn ∧ i = .int .i64 (k : Int) ∧ seenAt es m q k sn ∧ Below w.heap.size w wr ∧ RdEE wr 0 wr.heap.size A es ∧ Rd wr 0 wr.heap.size B2 T ∧ Rd wr 0 wr.heap.size C2 U) (fun _ i _ => es.length - (intOf i).toNat)
              case atStart => exact ⟨0, -1, Nat.zero_le _, rfl, rfl, seenAt_zero es m q, hB, hr.std, r2.std, u2.std⟩
              case round =>
                as_aux_lemma =>
                  clear hB hr r2 u2
                  obtain ⟨k, sn, hk, rfl, rfl, hsn, hB, hr, r2, u2⟩ := hrel
                  by_cases hlt : k < es.length
                  · obtain ⟨bA, oA, hA, _, _, hcA⟩ := hr (by omega)
                    subst hA
                    obtain ⟨A3, c3, x0, rk, hcap⟩ := hcA k hlt
                    clear hcA
                    have i0 : (0 : Int) ≤ (k : Int) := by omega
                    have i1 : (k : Int) < (es.length : Int) := by omega
                    have hkz := essz_at es k hlt
                    have hkl := esz_len es[k]
                    by_cases hf : 0 ≤ findI es[k] m q
                    · obtain ⟨e, i, e2, he, hi, he2, ⟨g1a, g1b⟩, ⟨g2a, g2b⟩, hsi, ⟨htm, htm0⟩, htr, hnx⟩ := round_yes hbH.out hlt hsn hf
                      have g1H := Lib.hid (And.intro g1a g1b)
                      have g2H := Lib.hid (And.intro g2a g2b)
                      have hnxH := Lib.hid hnx
                      clear g1a g1b g2a g2b hnx hsn hf
                      have hkT : k < T.length := by have := hl1H.out; omega
                      have hkU : k < U.length := by have := hl2H.out; omega
                      have htm' : U[k] = es[k][e].time := by have h := hUH.out; subst h; exact htm
                      have htr' : T[k] = if eqL es[k][e].shown es[i][e2].seen then 1 else 2 := by have h := hTH.out; subst h; exact htr
                      clear htm htr
                      obtain ⟨lk, hlk⟩ : ∃ lk, lk = es[k] := ⟨_, rfl⟩
                      have hikH := Lib.hid (fun h : i = k => show es[i] = es[k] by subst h; rfl)
                      obtain ⟨tk, htk⟩ : ∃ tk, tk = T[k] := ⟨_, rfl⟩
                      obtain ⟨uk, huk⟩ : ∃ uk, uk = U[k] := ⟨_, rfl⟩
                      rw [← htk] at htr'
                      rw [← huk] at htm'
                      have htk0 : (0 : Int) < tk := by rw [htr']; split <;> omega
                      obtain ⟨bK, oK, hA3, _, _, hcK⟩ := rk (by omega)
                      subst hA3
                      obtain ⟨E1, f1, E2, f2, y0, -, -, -, y4, -, rsh⟩ := hcK e he
                      clear hcK
                      rw [← htm'] at y0 htm0
                      have htmH := Lib.hid htm'
                      have htrH := Lib.hid htr'
                      clear htm' htr'
                      have e0 : (0 : Int) ≤ (e : Int) := by omega
                      have e1 : (e : Int) < (es[k].length : Int) := by omega
                      have hshl : es[k][e].shown.length ≤ 1048576 := by have := esz_at es[k] e he; omega
                      obtain ⟨sh, hsh⟩ : ∃ sh, sh = es[k][e].shown := ⟨_, rfl⟩
                      rw [← hsh] at y4 rsh htrH hshl
                      clear hsh
                      obtain ⟨nk, hnk⟩ : ∃ nk, nk = es[k].length := ⟨_, rfl⟩
                      have hnkH := Lib.hid hnk
                      rw [← hnk] at x0 e1
                      clear hnk hlk
                      go_wp2_with fail
                      (with_reducible refine (sFindEntry_w es[k] (some ⟨bK, oK, none⟩) nk c3 m q _ hnkH.out rk (by omega) (e : Int) true g1H.out).mono ?_)
                      rintro ee w16 ⟨rfl, b16⟩
                      have s16 : wr.heap.size ≤ w16.heap.size := b16.size
                      replace y0 := cell_later b16 y0
                      replace y4 := cell_later b16 y4
                      replace hB := hB.trans (Below.mono b16 hB.size)
                      replace hr := hr.st b16
                      replace r2 := r2.st b16
                      replace u2 := u2.st b16
                      replace rk := rk.st b16
                      replace rsh := rsh.st b16
                      clear b16 rk
                      skip
                      obtain ⟨bT, oT, hBT, _, _, hcT⟩ := r2 (by omega)
                      obtain ⟨bU, oU, hCU, _, _, hcU⟩ := u2 (by omega)
                      subst hBT hCU
                      have z1 := hcT k hkT
                      have z2 := hcU k hkU
                      rw [← htk] at z1
                      rw [← huk] at z2
                      have htkH := Lib.hid htk
                      clear hcT hcU htk huk
                      have i2 : (k : Int) < (T.length : Int) := by omega
                      have i3 : (k : Int) < (U.length : Int) := by omega
                      clear x0
                      go_wp2_with fail
                      go_quiet (fail)
                      have hB' := below_drewN hB nq
                      have hr' := (hr.drewN nq).std
                      have r2' := (r2.drewN nq).std
                      have u2' := (u2.drewN nq).std
                      have rsh' := (rsh.drewN nq).std
                      have y4' : (w16.drewN nq).cell? ⟨bK, oK + e * 5 + 4, none⟩ = some (.slice E2 sh.length f2) := y4
                      generalize hwq : w16.drewN nq = wq at hB' hr' r2' u2' rsh' y4' ⊢
                      clear hwq hB hr r2 u2 rsh y4 y0 z1 z2 i0 i2 i3
                      obtain ⟨wp, rfl⟩ : ∃ u, u = wq := ⟨_, rfl⟩
                      go_upto_if 298 with fail
                      go_cut [36] (fun s6 wq => s6 = .int .i64 (i : Int) ∧ Below w.heap.size w wq ∧ RdEE wq 0 wq.heap.size (some ⟨bA, oA, none⟩) es ∧ Rd wq 0 wq.heap.size (some ⟨bT, oT, none⟩) T ∧ Rd wq 0 wq.heap.size (some ⟨bU, oU, none⟩) U ∧ Rd wq 0 wq.heap.size E2 sh ∧ wq.cell? ⟨bK, oK + e * 5 + 4, none⟩ = some (.slice E2 sh.length f2))
                      case first =>
                        as_aux_lemma =>
                          have hall := Lib.hid (And.intro hB' (And.intro hr' (And.intro r2' (And.intro u2' (And.intro rsh' y4')))))
                          clear hB' hr' r2' u2' rsh' y4'
                          rcases hsi with ⟨rfl, hik⟩ | rfl
                          · go_wp2_with fail
                            go_meet
                            case rel => exact ⟨by rw [hik], hall.out.1, hall.out.2.1, hall.out.2.2.1, hall.out.2.2.2.1, hall.out.2.2.2.2.1, hall.out.2.2.2.2.2⟩
                          · have hi0 : ¬ ((i : Int) < 0) := by omega
                            go_wp2_with fail
                            go_meet
                            case rel => exact ⟨rfl, hall.out.1, hall.out.2.1, hall.out.2.2.1, hall.out.2.2.2.1, hall.out.2.2.2.2.1, hall.out.2.2.2.2.2⟩
                      case rest =>
                        as_aux_lemma =>
                          clear hB' hr' r2' u2' rsh' y4' hsi htm0
                          obtain ⟨rfl, hB, hr, r2, u2, rsh, y4⟩ := hcut
                          obtain ⟨ws, rfl⟩ : ∃ u, u = wc := ⟨_, rfl⟩
                          obtain ⟨bA2, oA2, hA, _, _, hcA⟩ := hr (by omega)
                          injection hA with hA
                          injection hA with hA1 hA2
                          subst hA1 hA2
                          obtain ⟨A6, c6, x0, ri, hcap2⟩ := hcA i hi
                          clear hcA
                          have hiz := essz_at es i hi
                          obtain ⟨bI, oI, hA6, _, _, hcI⟩ := ri (by omega)
                          subst hA6
                          obtain ⟨E3, f3, E4, f4, -, -, -, v3, -, rse, -⟩ := hcI e2 he2
                          clear hcI
                          have i4 : (0 : Int) ≤ (i : Int) := by omega
                          have i5 : (i : Int) < (es.length : Int) := by omega
                          have e3 : (0 : Int) ≤ (e2 : Int) := by omega
                          have e4 : (e2 : Int) < (es[i].length : Int) := by omega
                          have hsel : es[i][e2].seen.length ≤ 1048576 := by have := esz_at es[i] e2 he2; omega
                          obtain ⟨se, hse⟩ : ∃ se, se = es[i][e2].seen := ⟨_, rfl⟩
                          have htr := htrH.out
                          rw [← hse] at v3 rse hsel htr
                          clear hse htrH
                          obtain ⟨v, hv⟩ : ∃ v, eqL sh se = v := ⟨_, rfl⟩
                          rw [hv] at htr
                          have hvH := Lib.hid hv
                          clear hv
                          obtain ⟨ni, hni⟩ : ∃ ni, ni = es[i].length := ⟨_, rfl⟩
                          have hniH := Lib.hid hni
                          rw [← hni] at x0 e4
                          clear hni
                          have x0H := Lib.hid x0
                          go_wp2_with fail
                          (with_reducible refine (sFindEntry_w es[i] (some ⟨bI, oI, none⟩) ni c6 m q _ hniH.out ri (by omega) (e2 : Int) true g2H.out).mono ?_)
                          rintro ee w17 ⟨rfl, b17⟩
                          have s17 : ws.heap.size ≤ w17.heap.size := b17.size
                          replace x0 := cell_later b17 x0
                          replace y4 := cell_later b17 y4
                          replace v3 := cell_later b17 v3
                          replace hB := hB.trans (Below.mono b17 hB.size)
                          replace hr := hr.st b17
                          replace r2 := r2.st b17
                          replace u2 := u2.st b17
                          replace rsh := rsh.st b17
                          replace ri := ri.st b17
                          replace rse := rse.st b17
                          clear b17 x0H ri
                          obtain ⟨bT2, oT2, hBT, _, _, hcT⟩ := r2 (by omega)
                          injection hBT with hBT
                          injection hBT with hBT1 hBT2
                          subst hBT1 hBT2
                          have z1 := hcT k hkT
                          clear hcT
                          have i0 : (0 : Int) ≤ (k : Int) := by omega
                          have i2 : (k : Int) < (T.length : Int) := by omega
                          cases v with
                          | true =>
                            have z1b : w17.cell? ⟨bT, oT + k, none⟩ = some (.int .i64 1) := by rw [z1, ← htkH.out, htr]; rfl
                            clear z1 htr htkH
                            go_wp2_with fail
                            go_quiet ((go_at_call 23; exact qInts_q sh se E2 E3 sh.length se.length f2 f3 _ _ rfl rfl rsh rse hshl hsel true hvH.out))
                            replace hB := below_drewN hB nq
                            replace hr := (hr.drewN nq).std
                            replace r2 := (r2.drewN nq).std
                            replace u2 := (u2.drewN nq).std
                            have hall := Lib.hid (And.intro hB (And.intro hr (And.intro r2 u2)))
                            clear hB hr r2 u2
                            clear x0 y4 v3 z1b rsh rse i0 i2 i4 i5 e3 e4
                            go_wp2_with fail
                            go_roundw
                            case rel => exact ⟨k + 1, (i : Int), by omega, rfl, by go_num, hnxH.out, hall.out.1, hall.out.2.1, hall.out.2.2.1, hall.out.2.2.2⟩
                            case measure => simp [intOf]; omega
                          | false =>
                            have z1b : w17.cell? ⟨bT, oT + k, none⟩ = some (.int .i64 2) := by rw [z1, ← htkH.out, htr]; rfl
                            clear z1 htr htkH
                            go_wp2_with fail
                            go_quiet ((go_at_call 23; exact qInts_q sh se E2 E3 sh.length se.length f2 f3 _ _ rfl rfl rsh rse hshl hsel false hvH.out))
                            replace hB := below_drewN hB nq
                            replace hr := (hr.drewN nq).std
                            replace r2 := (r2.drewN nq).std
                            replace u2 := (u2.drewN nq).std
                            have hall := Lib.hid (And.intro hB (And.intro hr (And.intro r2 u2)))
                            clear hB hr r2 u2
                            clear x0 y4 v3 z1b rsh rse i0 i2 i4 i5 e3 e4
                            go_wp2_with fail
                            go_roundw
                            case rel => exact ⟨k + 1, (i : Int), by omega, rfl, by go_num, hnxH.out, hall.out.1, hall.out.2.1, hall.out.2.2.1, hall.out.2.2.2⟩
                            case measure => simp [intOf]; omega
                    · obtain ⟨⟨g1a, g1b⟩, htr, htm, hnx⟩ := round_no hbH.out hlt hsn hf
                      have g1H := Lib.hid (And.intro g1a g1b)
                      have hnxH := Lib.hid hnx
                      clear g1a g1b hnx hsn hf
                      have hkT : k < T.length := by have := hl1H.out; omega
                      have hkU : k < U.length := by have := hl2H.out; omega
                      have htm' : U[k] = -1 := by have h := hUH.out; subst h; exact htm
                      have htr' : T[k] = 0 := by have h := hTH.out; subst h; exact htr
                      clear htm htr
                      obtain ⟨nk, hnk⟩ : ∃ nk, nk = es[k].length := ⟨_, rfl⟩
                      have hnkH := Lib.hid hnk
                      rw [← hnk] at x0
                      clear hnk
                      go_wp2_with fail
                      (with_reducible refine (sFindEntry_w es[k] A3 nk c3 m q _ hnkH.out rk (by omega) 0 false g1H.out).mono ?_)
                      rintro e w18 ⟨rfl, b18⟩
                      have s18 : wr.heap.size ≤ w18.heap.size := b18.size
                      replace hB := hB.trans (Below.mono b18 hB.size)
                      replace hr := hr.st b18
                      replace r2 := r2.st b18
                      replace u2 := u2.st b18
                      replace rk := rk.st b18
                      clear b18
                      clear rk
                      obtain ⟨bT, oT, hBT, _, _, hcT⟩ := r2 (by omega)
                      obtain ⟨bU, oU, hCU, _, _, hcU⟩ := u2 (by omega)
                      subst hBT hCU
                      have z1 := hcT k hkT
                      have z2 := hcU k hkU
                      rw [htr'] at z1
                      rw [htm'] at z2
                      clear hcT hcU htm' htr'
                      have i2 : (k : Int) < (T.length : Int) := by omega
                      have i3 : (k : Int) < (U.length : Int) := by omega
                      replace hr := hr.std
                      replace r2 := r2.std
                      replace u2 := u2.std
                      have hall := Lib.hid (And.intro hB (And.intro hr (And.intro r2 u2)))
                      clear hB hr r2 u2
                      clear x0
                      go_wp2_with fail
                      go_quiet (fail)
                      go_wp2_with fail
                      go_roundw
                      case rel => exact ⟨k + 1, sn, by omega, rfl, by go_num, hnxH.out, below_drewN hall.out.1 nq, hall.out.2.1.drewN nq, hall.out.2.2.1.drewN nq, hall.out.2.2.2.drewN nq⟩
                      case measure => simp [intOf]; omega
                  · obtain rfl : k = es.length := by omega
                    have hlt3 : ¬ ((es.length : Int) < (es.length : Int)) := by omega
                    have hT0 : 0 < T.length := by have := hl1H.out; omega
                    have hfst : t = decide (0 < T[0]) := by have h := hTH.out; have h2 := htH.out; subst h; rw [← h2]; exact lt_first hbH.out
                    obtain ⟨bT, oT, hBT, _, _, hcT⟩ := r2 (by omega)
                    subst hBT
                    have z0 := hcT 0 hT0
                    simp at z0
                    obtain ⟨t0, ht0⟩ : ∃ t0, t0 = T[0] := ⟨_, rfl⟩
                    rw [← ht0] at z0 hfst
                    have i2 : (0 : Int) < (T.length : Int) := by omega
                    have hBH := Lib.hid hB
                    clear hB hr u2 r2 hsn hlt ht0
                    obtain ⟨wm, rfl⟩ : ∃ u, u = wr := ⟨_, rfl⟩
                    cases t with
                    | false =>
                      have ht0 : ¬ (0 < t0) := by simpa using hfst.symm
                      clear hfst hcT
                      go_wp2_with fail
                      go_loop [43] (fun i => i = .int .i64 0) (fun _ => 0)
                      case atStart => exact rfl
                      case round =>
                        as_aux_lemma =>
                          obtain rfl := hrel
                          go_wp2_with fail
                          go_ret
                          exact ⟨rfl, hBH.out⟩
                    | true =>
                      have ht0 : 0 < t0 := by simpa using hfst.symm
                      clear hfst
                      obtain ⟨n, hn1, hn2, hn3, hn4⟩ := lt_all htH.out
                      have hn3' : ∀ i (hi : i < T.length), i ≤ n → 0 < T[i] := by have h := hTH.out; subst h; exact hn3
                      have hn4' : n + 1 < T.length → ∀ hi : n + 1 < T.length, T[n + 1] = 0 := by have h := hTH.out; have h5 := hl1H.out; subst h; intro hh; exact hn4 (by omega)
                      have hVn : V = (n : Int) := by rw [← hVH.out]; exact hn1
                      subst hVn
                      have hnT : n < T.length := by have := hl1H.out; omega
                      have hn3H := Lib.hid hn3'
                      have hn4H := Lib.hid hn4'
                      have hcH := Lib.hid hcT
                      have hTl : T.length ≤ 1048576 := hTl1
                      clear hn3 hn4 hn3' hn4' hcT hn1
                      go_wp2_with fail
                      go_loop [43] (fun i => ∃ k : Nat, k ≤ n + 1 ∧ i = .int .i64 (k : Int)) (fun i => n + 1 - (intOf i).toNat)
                      case atStart => exact ⟨0, by omega, rfl⟩
                      case round =>
                        as_aux_lemma =>
                          obtain ⟨k, hk, rfl⟩ := hrel
                          by_cases hle : k ≤ n
                          · have hle2 : (k : Int) ≤ (n : Int) := by omega
                            have hkT : k < T.length := by omega
                            have zk := hcH.out k hkT
                            have hpos := hn3H.out k hkT hle
                            obtain ⟨tk, htk⟩ : ∃ tk, tk = T[k] := ⟨_, rfl⟩
                            rw [← htk] at zk hpos
                            clear htk
                            have j0 : (0 : Int) ≤ (k : Int) := by omega
                            have j1 : (k : Int) < (T.length : Int) := by omega
                            have j2 : (tk == 0) = false := by simp; omega
                            go_wp2_with fail
                            go_round
                            case rel => exact ⟨k + 1, by omega, by go_num⟩
                            case measure => simp [intOf]; omega
                          · have hle2 : ¬ ((k : Int) ≤ (n : Int)) := by omega
                            by_cases hend : n + 1 = T.length
                            · have q1 : ((n : Int) + 1 == (T.length : Int)) = true := by simp; omega
                              clear hend
                              go_wp2_with fail
                              go_ret
                              exact ⟨rfl, hBH.out⟩
                            · have q1 : ((n : Int) + 1 == (T.length : Int)) = false := by simp; omega
                              have hn1T : n + 1 < T.length := by omega
                              have zn := hcH.out (n + 1) hn1T
                              rw [hn4H.out hn1T hn1T] at zn
                              have j0 : (0 : Int) ≤ (n : Int) + 1 := by omega
                              have j1 : (n : Int) + 1 < (T.length : Int) := by omega
                              have j2 : ((n : Int) + 1).toNat = n + 1 := by omega
                              clear hend
                              go_wp2_with fail
                              go_ret
                              exact ⟨rfl, hBH.out⟩
end Go.Proofs.Yteajjbfecpffeaa
