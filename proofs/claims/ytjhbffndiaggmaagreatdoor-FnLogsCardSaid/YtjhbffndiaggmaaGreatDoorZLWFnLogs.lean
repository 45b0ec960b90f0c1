/-
  The walk through FnLogs. The conditions are bounds on lengths, and the library's variables.
-/
import Derived.Test.YtjhbffndiaggmaaGreatDoorZLCurG
import Derived.Test.YtjhbffndiaggmaaGreatDoorZLFactG
import Derived.Test.YtjhbffndiaggmaaGreatDoorBL3
import Derived.Test.YtjhbffndiaggmaaGreatDoorZLRlg
import Derived.Test.YtjhbffndiaggmaaGreatDoorBL26
import Derived.Test.YtjhbffndiaggmaaGreatDoorBL52
import Derived.Deep.DeepCutAuto
import Derived.Deep.CutBlock
namespace Go.Proofs.YtjhbffndiaggmaaGreatDoor
open Go.RowKit Go.ChangeShapes Go.WideShapes
set_option linter.unusedVariables false
set_option linter.unusedSimpArgs false

theorem wrap_two {s a b : Int} (h : s = a + b) (hb : 0 ≤ a + b ∧ a + b ≤ 1000000000) : IntKind.i64.wrap (a + b) = s ∧ wrap64 (a + b) = s := by
  subst h
  exact ⟨IntWalk.i64_in _ (by omega), IntWalk.wrap64_in _ (by omega)⟩
theorem iLogText_k (es : List Ent) (A : Option Addr) (n c : Nat) {l h : Nat} (w : World) (hn : n = es.length) (hr : RdE w l h A es) (hl : eszL es ≤ 1048576) (hca : es.length ≤ c) (hP : Pow w) (T : ByteArray) (v : Bool) (hE : str (ltL es) = T ∧ logB es = v) :
    Calls Tryz.prog 52 #[.slice A n c] w fun e w' => e = .returned (.tuple #[.string T, .bool v]) ∧ Below w.heap.size w w' := by
  obtain ⟨rfl, rfl⟩ := hE
  subst hn
  exact iLogText_any es A c w hr hl hca hP
theorem iMessagesLogged_k (es : List Ent) (A : Option Addr) (n c : Nat) {l h : Nat} (w : World) (hn : n = es.length) (hr : RdE w l h A es) (hl : eszL es ≤ 1048576) (hca : es.length ≤ c) (L : List Int) (v : Bool) (hE : mlL es = L ∧ logB es = v) :
    Calls Tryz.prog 54 #[.slice A n c] w fun e w' => ∃ A c, e = .returned (.tuple #[.slice A L.length c, .bool v]) ∧ Rd w' 0 w'.heap.size A L ∧ L.length ≤ 1048576 ∧ Below w.heap.size w w' := by
  obtain ⟨rfl, rfl⟩ := hE
  subst hn
  refine (iMessagesLogged_any es A c w hr hl hca).mono ?_
  rintro e w' ⟨A, c, he, q, m, hb⟩
  exact ⟨A, c, he, q.rd'.std, m, hb⟩
theorem iParseLog_k (t : ByteArray) (w : World) (hl : t.size ≤ 1048576) (hS : Sen w) (L : List Ent) (v : Bool) (hE : plL t.data.toList = L ∧ plB t.data.toList = v) :
    Calls Tryz.prog 57 #[.string t] w fun e w' => ∃ A c, e = .returned (.tuple #[.slice A L.length c, .bool v]) ∧ RdE w' 0 w'.heap.size A L ∧ eszL L ≤ 1048576 ∧ Below w.heap.size w w' := by
  obtain ⟨rfl, rfl⟩ := hE
  have h := iParseLog_l t.data.toList w (by rw [Array.length_toList]; exact hl) hS
  rw [str_of] at h
  refine h.mono ?_
  rintro e w' ⟨A, c, he, q, m, hb⟩
  exact ⟨A, c, he, q.rd'.std, m, hb⟩
theorem iFindEntry_k (m p : Int) (es : List Ent) (A : Option Addr) (n c : Nat) {l h : Nat} (w : World) (hn : n = es.length) (hr : RdE w l h A es) (hl : eszL es ≤ 1048576) (hca : es.length ≤ c) (V : Int) (v : Bool) (hE : feV es m p = V ∧ feB es m p = v) :
    Calls Tryz.prog 59 #[.slice A n c, .int .i64 m, .int .i64 p] w fun e w' => e = .returned (.tuple #[.int .i64 V, .bool v]) ∧ Below w.heap.size w w' := by
  obtain ⟨rfl, rfl⟩ := hE
  subst hn
  exact iFindEntry_any es A c m p w hr hl hca
theorem iAppendEntry_k (es : List Ent) (A : Option Addr) (n c : Nat) {l h : Nat} (w : World) (hn : n = es.length) (hr : RdE w l h A es) (hl : eszL es ≤ 1048576) (hca : es.length ≤ c) (t m p : Int) (y : List Int) (A1 : Option Addr) (c1 : Nat) (z : List Int) (A2 : Option Addr) (c2 : Nat) {l1 h1 l2 h2 : Nat} (hy : Rd w l1 h1 A1 y) (hz : Rd w l2 h2 A2 z) (hly : y.length ≤ 1048576) (hlz : z.length ≤ 1048576) (L : List Ent) (v : Bool) (hE : aeL es t m p y z = L ∧ aeB es t m p y z = v) :
    Calls Tryz.prog 62 #[.slice A n c, .agg #[.int .i64 t, .int .i64 m, .int .i64 p, .slice A1 y.length c1, .slice A2 z.length c2]] w fun e w' => ∃ A c, e = .returned (.tuple #[.slice A L.length c, .bool v]) ∧ RdE w' 0 w'.heap.size A L ∧ L.length ≤ c ∧ eszL L ≤ 1048576 ∧ Below w.heap.size w w' := by
  obtain ⟨rfl, rfl⟩ := hE
  subst hn
  refine (iAppendEntry_any es A c t m p y A1 c1 z A2 c2 w hr hy hz hl hly hlz hca).mono ?_
  rintro e w' ⟨A, c, he, q, m, hb⟩
  exact ⟨A, c, he, q.rd'.std, q.cap, m, hb⟩
theorem iJoinLogs_k (es : List Ent) (A : Option Addr) (n c : Nat) (fs : List Ent) (B : Option Addr) (k d : Nat) {l h l' h' : Nat} (w : World) (hn : n = es.length) (hk : k = fs.length) (hr : RdE w l h A es) (hs : RdE w l' h' B fs) (hl : eszL es ≤ 1048576) (hl' : eszL fs ≤ 1048576) (hca : es.length ≤ c) (hcb : fs.length ≤ d) (L : List Ent) (v : Bool) (hE : jlL es fs = L ∧ jlB es fs = v) :
    Calls Tryz.prog 65 #[.slice A n c, .slice B k d] w fun e w' => ∃ A c, e = .returned (.tuple #[.slice A L.length c, .bool v]) ∧ RdE w' 0 w'.heap.size A L ∧ L.length ≤ c ∧ eszL L ≤ 1048576 ∧ Below w.heap.size w w' := by
  obtain ⟨rfl, rfl⟩ := hE
  subst hn hk
  refine (iJoinLogs_any es A c fs B d w hr hs hl hl' hca hcb).mono ?_
  rintro e w' ⟨A, c, he, q, m, hb⟩
  exact ⟨A, c, he, q.rd'.std, q.cap, m, hb⟩
theorem sLogText_k (es : List Ent) (A : Option Addr) (n c : Nat) {l h : Nat} (w : World) (hn : n = es.length) (hr : RdE w l h A es) (hl : eszL es ≤ 1048576) (T : ByteArray) (v : Bool) (hE : str (ltL es) = T ∧ logB es = v) :
    Calls Tryz.prog 53 #[.slice A n c] w fun e w' => e = .returned (.tuple #[.string T, .bool v]) ∧ Below w.heap.size w w' := by
  obtain ⟨rfl, rfl⟩ := hE
  subst hn
  exact sLogText_any es A c w hr hl
theorem sMessagesLogged_k (es : List Ent) (A : Option Addr) (n c : Nat) {l h : Nat} (w : World) (hn : n = es.length) (hr : RdE w l h A es) (hl : eszL es ≤ 1048576) (L : List Int) (v : Bool) (hE : mlL es = L ∧ logB es = v) :
    Calls Tryz.prog 55 #[.slice A n c] w fun e w' => ∃ A c, e = .returned (.tuple #[.slice A L.length c, .bool v]) ∧ Rd w' 0 w'.heap.size A L ∧ L.length ≤ 1048576 ∧ Below w.heap.size w w' := by
  obtain ⟨rfl, rfl⟩ := hE
  subst hn
  refine (sMessagesLogged_any es A c w hr hl).mono ?_
  rintro e w' ⟨A, c, he, q, m, hb⟩
  exact ⟨A, c, he, q, m, hb⟩
theorem sParseLog_k (t : ByteArray) (w : World) (hl : t.size ≤ 1048576) (L : List Ent) (v : Bool) (hE : plL t.data.toList = L ∧ plB t.data.toList = v) :
    Calls Tryz.prog 69 #[.string t] w fun e w' => ∃ A c, e = .returned (.tuple #[.slice A L.length c, .bool v]) ∧ RdE w' 0 w'.heap.size A L ∧ eszL L ≤ 1048576 ∧ Below w.heap.size w w' := by
  obtain ⟨rfl, rfl⟩ := hE
  have h := sParseLog_l t.data.toList w (by rw [Array.length_toList]; exact hl)
  rw [str_of] at h
  refine h.mono ?_
  rintro e w' ⟨A, c, he, q, m, hb⟩
  exact ⟨A, c, he, q, m, hb⟩
theorem sFindEntry_k (m p : Int) (es : List Ent) (A : Option Addr) (n c : Nat) {l h : Nat} (w : World) (hn : n = es.length) (hr : RdE w l h A es) (hl : eszL es ≤ 1048576) (V : Int) (v : Bool) (hE : feV es m p = V ∧ feB es m p = v) :
    Calls Tryz.prog 71 #[.slice A n c, .int .i64 m, .int .i64 p] w fun e w' => e = .returned (.tuple #[.int .i64 V, .bool v]) ∧ Below w.heap.size w w' := by
  obtain ⟨rfl, rfl⟩ := hE
  subst hn
  exact sFindEntry_any es A c m p w hr hl
theorem sAppendEntry_k (es : List Ent) (A : Option Addr) (n c : Nat) {l h : Nat} (w : World) (hn : n = es.length) (hr : RdE w l h A es) (hl : eszL es ≤ 1048576) (t m p : Int) (y : List Int) (A1 : Option Addr) (c1 : Nat) (z : List Int) (A2 : Option Addr) (c2 : Nat) {l1 h1 l2 h2 : Nat} (hy : Rd w l1 h1 A1 y) (hz : Rd w l2 h2 A2 z) (hly : y.length ≤ 1048576) (hlz : z.length ≤ 1048576) (L : List Ent) (v : Bool) (hE : aeL es t m p y z = L ∧ aeB es t m p y z = v) :
    Calls Tryz.prog 63 #[.slice A n c, .agg #[.int .i64 t, .int .i64 m, .int .i64 p, .slice A1 y.length c1, .slice A2 z.length c2]] w fun e w' => ∃ A c, e = .returned (.tuple #[.slice A L.length c, .bool v]) ∧ RdE w' 0 w'.heap.size A L ∧ L.length ≤ c ∧ eszL L ≤ 1048576 ∧ Below w.heap.size w w' := by
  obtain ⟨rfl, rfl⟩ := hE
  subst hn
  refine (sAppendEntry_c es A c t m p y A1 c1 z A2 c2 w hr hy hz hl hly hlz).mono ?_
  rintro e w' ⟨A, c, he, q, qc, m, hb⟩
  exact ⟨A, c, he, q, qc, m, hb⟩
theorem sJoinLogs_k (es : List Ent) (A : Option Addr) (n c : Nat) (fs : List Ent) (B : Option Addr) (k d : Nat) {l h l' h' : Nat} (w : World) (hn : n = es.length) (hk : k = fs.length) (hr : RdE w l h A es) (hs : RdE w l' h' B fs) (hl : eszL es ≤ 1048576) (hl' : eszL fs ≤ 1048576) (hca : es.length ≤ c) (hcb : fs.length ≤ d) (L : List Ent) (v : Bool) (hE : jlL es fs = L ∧ jlB es fs = v) :
    Calls Tryz.prog 66 #[.slice A n c, .slice B k d] w fun e w' => ∃ A c, e = .returned (.tuple #[.slice A L.length c, .bool v]) ∧ RdE w' 0 w'.heap.size A L ∧ eszL L ≤ 1048576 ∧ Below w.heap.size w w' := by
  obtain ⟨rfl, rfl⟩ := hE
  subst hn hk
  refine (sJoinLogs_any es A c fs B d w hr hs hl hl' hca hcb).mono ?_
  rintro e w' ⟨A, c, he, q, m, hb⟩
  exact ⟨A, c, he, q, m, hb⟩
theorem iIsLog_k (es : List Ent) (A : Option Addr) (n c : Nat) {l h : Nat} (w : World) (hn : n = es.length) (hr : RdE w l h A es) (hl : eszL es ≤ 1048576) (hca : es.length ≤ c) (v : Bool) (hv : logB es = v) : Calls Tryz.prog 56 #[.slice A n c] w fun e w' => e = .returned (.bool v) ∧ Below w.heap.size w w' := by
  subst hn hv; exact iIsLog_any es A c w hr hl hca
theorem iIsEntry_k (t m p : Int) (y : List Int) (A1 : Option Addr) (c1 : Nat) (z : List Int) (A2 : Option Addr) (c2 : Nat) {l1 h1 l2 h2 : Nat} (w : World) (hy : Rd w l1 h1 A1 y) (hz : Rd w l2 h2 A2 z) (hly : y.length ≤ 1048576) (hlz : z.length ≤ 1048576) (v : Bool) (hv : enB t m p y z = v) :
    Calls Tryz.prog 60 #[.agg #[.int .i64 t, .int .i64 m, .int .i64 p, .slice A1 y.length c1, .slice A2 z.length c2]] w fun e w' => e = .returned (.bool v) ∧ Below w.heap.size w w' := by
  subst hv; exact iIsEntry_any t m p y A1 c1 z A2 c2 w hy hz (by omega) (by omega)
theorem iShownSignals_k (es : List Ent) (A : Option Addr) (n c : Nat) {l h : Nat} (w : World) (hn : n = es.length) (hr : RdE w l h A es) (hl : eszL es ≤ 1048576) (hca : es.length ≤ c) (V : Int) (v : Bool) (hE : ssV es = V ∧ logB es = v) : Calls Tryz.prog 67 #[.slice A n c] w fun e w' => e = .returned (.tuple #[.int .i64 V, .bool v]) ∧ Below w.heap.size w w' := by
  obtain ⟨rfl, rfl⟩ := hE
  subst hn; exact iShownSignals_any es A c w hr hl hca
set_option maxRecDepth 100000 in
set_option maxHeartbeats 16000000 in
theorem fnLogs_walk (A1 A2 : Option Addr) (n1 c1 n2 c2 : Nat) (w : World) (h1 : n1 ≤ c1) (h2 : n2 ≤ c2) (m1 : n1 ≤ 9223372036854775807) (m2 : n2 ≤ 9223372036854775807) (hcd1 : CodeAt w w.heap.size A1 n1) (hcd2 : CodeAt w w.heap.size A2 n2) (hS0 : Sen w) :
    Calls Tryz.prog 5 #[.slice A1 n1 c1, .slice A2 n2 c2] w fun e w' => e = .returned (.bool true) ∧ Below w.heap.size w w' := by
  go_enter Tryz.func5, Tryz.ntmps5
  go_wp2_with fail
  (with_reducible refine (big_v A1 A2 n1 c1 n2 c2 _ m1 m2).mono ?_)
  rintro e w0 hbig
  rcases hbig with ⟨rfl, hbig, rfl⟩ | ⟨rfl, rfl⟩
  · clear hbig
    have hB := Below.refl w.heap.size w
    have hcd := hcd2
    have hS := hS0
    clear hS0
    go_wp2_with fail
    (with_reducible refine (drawLogText_any A1 n1 c1 _ hcd1 m1 h1).mono ?_)
    rintro e w1 ⟨es, A, c, rfl, ⟨g1, g2, g3⟩, hr, b1⟩
    have s1 : w.heap.size ≤ w1.heap.size := b1.size
    replace hB := hB.trans (Below.mono b1 hB.size)
    replace hcd := hcd.st b1
    replace hS := hS.st b1
    clear b1
    clear hcd1
    replace hr := hr.std
    obtain ⟨ne, hne⟩ : ∃ n, n = es.length := ⟨_, rfl⟩
    have hneH := Lib.hid hne
    rw [← hne] at g1 g3 ⊢
    clear hne
    obtain ⟨T, hT⟩ : ∃ u, str (ltL es) = u := ⟨_, rfl⟩
    obtain ⟨v, hv⟩ : ∃ u, logB es = u := ⟨_, rfl⟩
    have hE1 := Lib.hid (And.intro hT hv)
    clear hT hv
    obtain ⟨L, hL⟩ : ∃ u, mlL es = u := ⟨_, rfl⟩
    have hE2 := Lib.hid (And.intro hL hE1.out.2)
    clear hL
    have hTl : T.size ≤ 12000 := by rw [← hE1.out.1, str_size]; exact lt_len _
    go_wp2_with fail
    (with_reducible refine (iLogText_k es A ne c _ hneH.out hr (by omega) (by have := hneH.out; omega) hS.pow T v hE1.out).mono ?_)
    rintro e w2 ⟨rfl, b2⟩
    have s2 : w1.heap.size ≤ w2.heap.size := b2.size
    replace hB := hB.trans (Below.mono b2 hB.size)
    replace hcd := hcd.st b2
    replace hS := hS.st b2
    replace hr := hr.st b2
    clear b2
    go_wp2_with fail
    (with_reducible refine (sLogText_k es A ne c _ hneH.out hr (by omega) T v hE1.out).mono ?_)
    rintro e w3 ⟨rfl, b3⟩
    have s3 : w2.heap.size ≤ w3.heap.size := b3.size
    replace hB := hB.trans (Below.mono b3 hB.size)
    replace hcd := hcd.st b3
    replace hS := hS.st b3
    replace hr := hr.st b3
    clear b3
    go_wp2_with fail
    (with_reducible refine (iMessagesLogged_k es A ne c _ hneH.out hr (by omega) (by have := hneH.out; omega) L v hE2.out).mono ?_)
    rintro e w4 ⟨A10, c10, rfl, r10, nL, b4⟩
    have s4 : w3.heap.size ≤ w4.heap.size := b4.size
    replace hB := hB.trans (Below.mono b4 hB.size)
    replace hcd := hcd.st b4
    replace hS := hS.st b4
    replace hr := hr.st b4
    clear b4
    go_wp2_with fail
    (with_reducible refine (sMessagesLogged_k es A ne c _ hneH.out hr (by omega) L v hE2.out).mono ?_)
    rintro e w5 ⟨A12, c12, rfl, r12, -, b5⟩
    have s5 : w4.heap.size ≤ w5.heap.size := b5.size
    replace hB := hB.trans (Below.mono b5 hB.size)
    replace hcd := hcd.st b5
    replace hS := hS.st b5
    replace hr := hr.st b5
    replace r10 := r10.st b5
    clear b5
    go_upto_region 8 with fail
    go_cut [104] (fun s6 wq => s6 = .bool false ∧ Below w.heap.size w wq ∧ CodeAt wq wq.heap.size A2 n2 ∧ Sen wq ∧ RdE wq 0 wq.heap.size A es ∧ Rd wq 0 wq.heap.size A12 L)
    case first =>
      as_aux_lemma =>
        go_wp2_with fail
        (with_reducible refine (sameInts_t L A10 A12 L.length L.length c10 c12 _ rfl rfl r10 r12 nL).mono ?_)
        rintro e w6 ⟨rfl, b6⟩
        have s6 : w5.heap.size ≤ w6.heap.size := b6.size
        replace hB := hB.trans (Below.mono b6 hB.size)
        replace hcd := hcd.st b6
        replace hS := hS.st b6
        replace hr := hr.st b6
        replace r10 := r10.st b6
        replace r12 := r12.st b6
        clear b6
        clear r10
        go_wp2_with fail
        (with_reducible refine (iIsLog_k es A ne c _ hneH.out hr (by omega) (by have := hneH.out; omega) v hE1.out.2).mono ?_)
        rintro e w7 ⟨rfl, b7⟩
        have s7 : w6.heap.size ≤ w7.heap.size := b7.size
        replace hB := hB.trans (Below.mono b7 hB.size)
        replace hcd := hcd.st b7
        replace hS := hS.st b7
        replace hr := hr.st b7
        replace r12 := r12.st b7
        clear b7
        replace hr := hr.std
        replace r12 := r12.std
        have hall := Lib.hid (And.intro hB (And.intro hcd (And.intro hS (And.intro hr r12))))
        clear hB hcd hS hr r12
        go_wp2_with fail
        go_meet
        case rel => exact ⟨by first | rfl | simp, hall.out.1, hall.out.2.1, hall.out.2.2.1, hall.out.2.2.2.1, hall.out.2.2.2.2⟩
    case rest =>
      as_aux_lemma =>
        clear hB hcd hS hr r10 r12
        obtain ⟨rfl, hB, hcd, hS, hr, r12⟩ := hcut
        obtain ⟨wa, rfl⟩ : ∃ u, u = wc := ⟨_, rfl⟩
        go_upto_if 105 with fail
        go_cut [] (fun wq => Below w.heap.size w wq ∧ CodeAt wq wq.heap.size A2 n2 ∧ Sen wq)
        case first =>
          as_aux_lemma =>
            cases v with
            | false =>
              have hall := Lib.hid (And.intro hB (And.intro hcd hS))
              clear hB hcd hS
              clear hr r12
              go_wp2_with fail
              go_meet
              case rel => exact ⟨hall.out.1, hall.out.2.1, hall.out.2.2⟩
            | true =>
              have hbk : Hid (plL T.data.toList = es ∧ plB T.data.toList = true) := Lib.hid (by have h := lt_back hE1.out.2; rw [← hE1.out.1, str_toList]; exact h)
              go_wp2_with fail
              (with_reducible refine (iParseLog_k T _ (by omega) hS es true hbk.out).mono ?_)
              rintro e w8 ⟨A14, c14, rfl, r14, -, b8⟩
              have s8 : wa.heap.size ≤ w8.heap.size := b8.size
              replace hB := hB.trans (Below.mono b8 hB.size)
              replace hcd := hcd.st b8
              replace hS := hS.st b8
              replace hr := hr.st b8
              replace r12 := r12.st b8
              clear b8
              go_wp2_with fail
              (with_reducible refine (pSameLog_t es A14 A es.length ne c14 c _ rfl hneH.out r14 hr (by omega)).mono ?_)
              rintro e w9 ⟨rfl, b9⟩
              have s9 : w8.heap.size ≤ w9.heap.size := b9.size
              replace hB := hB.trans (Below.mono b9 hB.size)
              replace hcd := hcd.st b9
              replace hS := hS.st b9
              replace hr := hr.st b9
              replace r12 := r12.st b9
              replace r14 := r14.st b9
              clear b9
              clear r14
              replace hr := hr.std
              replace r12 := r12.std
              go_wp2_with fail
              go_loopw [121] (fun i wr => ∃ k : Nat, k ≤ ne ∧ i = .int .i64 (k : Int) ∧ Below w.heap.size w wr ∧ CodeAt wr wr.heap.size A2 n2 ∧ Sen wr ∧ RdE wr 0 wr.heap.size A es ∧ Rd wr 0 wr.heap.size A12 L) (fun i _ => ne - (intOf i).toNat)
              case atStart => exact ⟨0, Nat.zero_le _, rfl, hB, hcd, hS, hr, r12⟩
              case round =>
                as_aux_lemma =>
                  clear hB hcd hS hr r12
                  obtain ⟨k, hk, rfl, hB, hcd, hS, hr, r12⟩ := hrel
                  by_cases hlt : k < ne
                  · have hkl : k < es.length := by have := hneH.out; omega
                    obtain ⟨q1, q2, q3, q4⟩ := lg_entry hE1.out.2 k hkl
                    have hsz := esz_at es k hkl
                    obtain ⟨bK, oK, hA, _, _, hcK⟩ := hr (by omega)
                    obtain ⟨B1, f1, B2, f2, y0, y1, y2, y3, y4, rse, rsh⟩ := hcK k hkl
                    obtain ⟨ek, hek⟩ : ∃ u, u = es[k] := ⟨_, rfl⟩
                    rw [← hek] at q1 q2 q3 q4 y0 y1 y2 y3 y4 rse rsh hsz
                    have hfe := Lib.hid (And.intro q2 q1)
                    rw [hE2.out.1] at q3
                    have hml := Lib.hid q3
                    have hen := Lib.hid q4
                    clear q1 q2 q3 q4 hek hcK
                    subst hA
                    have i0 : (0 : Int) ≤ (k : Int) := by omega
                    have i1 : (k : Int) < (ne : Int) := by omega
                    go_wp2_with fail
                    obtain ⟨w10, hw10⟩ : ∃ u, u = wr.alloc (.cells #[.int .i64 ek.time, .int .i64 ek.msg, .int .i64 ek.part, .slice B1 ek.seen.length f1, .slice B2 ek.shown.length f2] 74) := ⟨_, rfl⟩
                    rw [← hw10]
                    have e10 : w10.heap.size = wr.heap.size + 1 := by rw [hw10]; simp
                    have s10 : wr.heap.size + 1 ≤ w10.heap.size := by omega
                    have b10 : Below wr.heap.size wr w10 := by rw [hw10]; exact (Below.refl _ _).alloc (Nat.le_refl _) _
                    have bE : Bk w10 (wr.heap.size) 74 #[.int .i64 ek.time, .int .i64 ek.msg, .int .i64 ek.part, .slice B1 ek.seen.length f1, .slice B2 ek.shown.length f2] := by rw [hw10]; exact Bk.new _ _ _
                    replace hB := hB.trans (Below.mono b10 hB.size)
                    replace hcd := hcd.st b10
                    replace hS := hS.st b10
                    replace hr := hr.st b10
                    replace r12 := r12.st b10
                    replace rse := rse.st b10
                    replace rsh := rsh.st b10
                    replace e10 := Lib.hid e10
                    clear b10 hw10
                    clear y0 y1 y2 y3 y4 i0
                    (with_reducible refine (iFindEntry_k ek.msg ek.part es _ ne c _ hneH.out hr (by omega) (by have := hneH.out; omega) (k : Int) true hfe.out).mono ?_)
                    rintro e w11 ⟨rfl, b11⟩
                    have s11 : w10.heap.size ≤ w11.heap.size := b11.size
                    replace hB := hB.trans (Below.mono b11 hB.size)
                    replace hcd := hcd.st b11
                    replace hS := hS.st b11
                    replace hr := hr.st b11
                    replace r12 := r12.st b11
                    replace rse := rse.st b11
                    replace rsh := rsh.st b11
                    replace bE := bE.st b11
                    clear b11
                    have xl := bE.lt
                    have x0 := bE.cell 0
                    have x1 := bE.cell 1
                    have x2 := bE.cell 2
                    have x3 := bE.cell 3
                    have x4 := bE.cell 4
                    simp at x0 x1 x2 x3 x4
                    go_wp2_with fail
                    (with_reducible refine (pIn_v L A12 L.length c12 ek.msg _ rfl r12 nL true hml.out).mono ?_)
                    rintro ee ww ⟨rfl, hww⟩
                    subst hww
                    clear xl x0 x1 x2 x3 x4
                    have xl := bE.lt
                    have x0 := bE.cell 0
                    have x1 := bE.cell 1
                    have x2 := bE.cell 2
                    have x3 := bE.cell 3
                    have x4 := bE.cell 4
                    simp at x0 x1 x2 x3 x4
                    go_wp2_with fail
                    clear xl x0 x1 x2 x3 x4
                    (with_reducible refine (iIsEntry_k ek.time ek.msg ek.part ek.seen B1 f1 ek.shown B2 f2 _ rse rsh (by omega) (by omega) true hen.out).mono ?_)
                    rintro e w12 ⟨rfl, b12⟩
                    have s12 : w11.heap.size ≤ w12.heap.size := b12.size
                    replace hB := hB.trans (Below.mono b12 hB.size)
                    replace hcd := hcd.st b12
                    replace hS := hS.st b12
                    replace hr := hr.st b12
                    replace r12 := r12.st b12
                    replace rse := rse.st b12
                    replace rsh := rsh.st b12
                    replace bE := bE.st b12
                    clear b12
                    clear rse rsh bE
                    replace hr := hr.std
                    replace r12 := r12.std
                    have hall := Lib.hid (And.intro hB (And.intro hcd (And.intro hS (And.intro hr r12))))
                    clear hB hcd hS hr r12
                    go_wp2_with fail
                    go_roundw
                    case rel => exact ⟨k + 1, by omega, by go_num, hall.out.1, hall.out.2.1, hall.out.2.2.1, hall.out.2.2.2.1, hall.out.2.2.2.2⟩
                    case measure => simp [intOf]; omega
                  · have hlt2 : ¬ ((k : Int) < (ne : Int)) := by omega
                    have hall := Lib.hid (And.intro hB (And.intro hcd hS))
                    clear hB hcd hS
                    clear hr r12
                    go_wp2_with fail
                    go_meet
                    case rel => exact ⟨hall.out.1, hall.out.2.1, hall.out.2.2⟩
        case rest =>
          as_aux_lemma =>
            clear hB hcd hS hr r12
            obtain ⟨hB, hcd, hS⟩ := hcut
            obtain ⟨wb, rfl⟩ : ∃ u, u = wc := ⟨_, rfl⟩
            clear hE1 hE2 hTl hneH
            go_wp2_with fail
            (with_reducible refine (drawAppendEntry_any A2 n2 c2 _ hcd m2 h2).mono ?_)
            rintro e w13 ⟨us, A20, c20, t1, m1e, q1, ya, za, B21, d21, C21, f21, rfl, ⟨u1, u2, u3⟩, ⟨y1a, z1a⟩, ru, rya, rza, b13⟩
            have s13 : wb.heap.size ≤ w13.heap.size := b13.size
            replace hB := hB.trans (Below.mono b13 hB.size)
            replace hcd := hcd.st b13
            replace hS := hS.st b13
            clear b13
            obtain ⟨nu, hnu⟩ : ∃ n, n = us.length := ⟨_, rfl⟩
            have hnuH := Lib.hid hnu
            rw [← hnu] at u1 u3 ⊢
            clear hnu
            obtain ⟨L3, hL3⟩ : ∃ u, aeL us t1 m1e q1 ya za = u := ⟨_, rfl⟩
            obtain ⟨v3, hv3⟩ : ∃ u, aeB us t1 m1e q1 ya za = u := ⟨_, rfl⟩
            have hE3 := Lib.hid (And.intro hL3 hv3)
            clear hL3 hv3
            go_wp2_with fail
            obtain ⟨w14, hw14⟩ : ∃ u, u = w13.alloc (.cells #[.int .i64 t1, .int .i64 m1e, .int .i64 q1, .slice B21 ya.length d21, .slice C21 za.length f21] 74) := ⟨_, rfl⟩
            rw [← hw14]
            have e14 : w14.heap.size = w13.heap.size + 1 := by rw [hw14]; simp
            have s14 : w13.heap.size + 1 ≤ w14.heap.size := by omega
            have b14 : Below w13.heap.size w13 w14 := by rw [hw14]; exact (Below.refl _ _).alloc (Nat.le_refl _) _
            have k21 : Bk w14 (w13.heap.size) 74 #[.int .i64 t1, .int .i64 m1e, .int .i64 q1, .slice B21 ya.length d21, .slice C21 za.length f21] := by rw [hw14]; exact Bk.new _ _ _
            replace hB := hB.trans (Below.mono b14 hB.size)
            replace hcd := hcd.st b14
            replace hS := hS.st b14
            replace ru := ru.st b14
            replace rya := rya.st b14
            replace rza := rza.st b14
            replace e14 := Lib.hid e14
            clear b14 hw14
            (with_reducible refine (iAppendEntry_k us A20 nu c20 _ hnuH.out ru (by omega) (by have := hnuH.out; omega) t1 m1e q1 ya B21 d21 za C21 f21 rya rza (by omega) (by omega) L3 v3 hE3.out).mono ?_)
            rintro e w15 ⟨A22, c22, rfl, r22, -, n3, b15⟩
            have s15 : w14.heap.size ≤ w15.heap.size := b15.size
            replace hB := hB.trans (Below.mono b15 hB.size)
            replace hcd := hcd.st b15
            replace hS := hS.st b15
            replace ru := ru.st b15
            replace rya := rya.st b15
            replace rza := rza.st b15
            replace k21 := k21.st b15
            clear b15
            have xl := k21.lt
            have x0 := k21.cell 0
            have x1 := k21.cell 1
            have x2 := k21.cell 2
            have x3 := k21.cell 3
            have x4 := k21.cell 4
            simp at x0 x1 x2 x3 x4
            go_wp2_with fail
            clear xl x0 x1 x2 x3 x4
            (with_reducible refine (sAppendEntry_k us A20 nu c20 _ hnuH.out ru (by omega) t1 m1e q1 ya B21 d21 za C21 f21 rya rza (by omega) (by omega) L3 v3 hE3.out).mono ?_)
            rintro e w16 ⟨A24, c24, rfl, r24, q24, -, b16⟩
            have s16 : w15.heap.size ≤ w16.heap.size := b16.size
            replace hB := hB.trans (Below.mono b16 hB.size)
            replace hcd := hcd.st b16
            replace hS := hS.st b16
            replace ru := ru.st b16
            replace rya := rya.st b16
            replace rza := rza.st b16
            replace k21 := k21.st b16
            replace r22 := r22.st b16
            clear b16
            clear rya rza k21
            obtain ⟨n9, hn9⟩ : ∃ n, n = L3.length := ⟨_, rfl⟩
            have hn9H := Lib.hid hn9
            rw [← hn9] at q24 ⊢
            clear hn9
            go_upto_region 24 with fail
            go_cut [200] (fun s6 wq => s6 = .bool false ∧ Below w.heap.size w wq ∧ CodeAt wq wq.heap.size A2 n2 ∧ Sen wq)
            case first =>
              as_aux_lemma =>
                go_wp2_with fail
                (with_reducible refine (pSameLog_t L3 A22 A24 n9 n9 c22 c24 _ hn9H.out hn9H.out r22 r24 n3).mono ?_)
                rintro e w17 ⟨rfl, b17⟩
                have s17 : w16.heap.size ≤ w17.heap.size := b17.size
                replace hB := hB.trans (Below.mono b17 hB.size)
                replace hcd := hcd.st b17
                replace hS := hS.st b17
                replace ru := ru.st b17
                replace r22 := r22.st b17
                replace r24 := r24.st b17
                clear b17
                clear r22
                cases v3 with
                | false =>
                  have hall := Lib.hid (And.intro hB (And.intro hcd hS))
                  clear hB hcd hS
                  clear ru r24
                  go_wp2_with fail
                  go_meet
                  case rel => exact ⟨by first | rfl | simp, hall.out.1, hall.out.2.1, hall.out.2.2⟩
                | true =>
                  obtain ⟨w1, w2x, w3x, -⟩ := ae_fact hE3.out.2 hE3.out.1
                  have hln : L3.length = nu + 1 := by rw [w1, hnuH.out]
                  have ht := Lib.hid w2x
                  clear w1 w2x w3x
                  have r5 : RdE w17 0 w17.heap.size A24 us := by have h := r24.std.take us.length; rwa [ht.out] at h
                  clear r24
                  have e1 : (n9 : Int) = (nu : Int) + 1 := by have := hn9H.out; omega
                  have i0 : (0 : Int) ≤ (nu : Int) := by omega
                  have i1 : (nu : Int) ≤ (c24 : Int) := by omega
                  have i2 : (nu : Int) ≤ (n9 : Int) := by omega
                  have i3 : nu ≤ c24 := by omega
                  have hb2 : 0 ≤ (nu : Int) + 1 ∧ (nu : Int) + 1 ≤ 1000000000 := by omega
                  obtain ⟨e2, e3⟩ := wrap_two e1 hb2
                  clear e1 hb2 hln
                  go_wp2_with fail
                  (with_reducible refine (pSameLog_t us A24 A20 nu nu c24 c20 _ hnuH.out hnuH.out r5 ru (by omega)).mono ?_)
                  rintro e w18 ⟨rfl, b18⟩
                  have s18 : w17.heap.size ≤ w18.heap.size := b18.size
                  replace hB := hB.trans (Below.mono b18 hB.size)
                  replace hcd := hcd.st b18
                  replace hS := hS.st b18
                  replace ru := ru.st b18
                  replace r5 := r5.st b18
                  clear b18
                  clear e2 e3 i0 i1 i2 i3 r5
                  have hall := Lib.hid (And.intro hB (And.intro hcd hS))
                  clear hB hcd hS
                  clear ru
                  go_wp2_with fail
                  go_meet
                  case rel => exact ⟨by first | rfl | simp, hall.out.1, hall.out.2.1, hall.out.2.2⟩
            case rest =>
              as_aux_lemma =>
                clear hB hcd hS ru r22 r24
                obtain ⟨rfl, hB, hcd, hS⟩ := hcut
                obtain ⟨wd, rfl⟩ : ∃ u, u = wc := ⟨_, rfl⟩
                go_wp2_with fail
                (with_reducible refine (drawJoinLogs_any A2 n2 c2 _ hcd m2 h2).mono ?_)
                rintro e w19 ⟨xs, ys, A26, c26, A27, c27, rfl, ⟨x1, x2, x3⟩, ⟨y1, y2, y3⟩, rx, ry, b19⟩
                have s19 : wd.heap.size ≤ w19.heap.size := b19.size
                replace hB := hB.trans (Below.mono b19 hB.size)
                replace hcd := hcd.st b19
                replace hS := hS.st b19
                clear b19
                obtain ⟨nx, hnx⟩ : ∃ n, n = xs.length := ⟨_, rfl⟩
                obtain ⟨ny, hny⟩ : ∃ n, n = ys.length := ⟨_, rfl⟩
                have hnxH := Lib.hid hnx
                have hnyH := Lib.hid hny
                rw [← hnx] at x1 x3 ⊢
                rw [← hny] at y1 y3 ⊢
                clear hnx hny
                obtain ⟨J, hJ⟩ : ∃ u, jlL xs ys = u := ⟨_, rfl⟩
                obtain ⟨v5, hv5⟩ : ∃ u, jlB xs ys = u := ⟨_, rfl⟩
                have hE5 := Lib.hid (And.intro hJ hv5)
                clear hJ hv5
                go_wp2_with fail
                (with_reducible refine (iJoinLogs_k xs A26 nx c26 ys A27 ny c27 _ hnxH.out hnyH.out rx ry (by omega) (by omega) (by have := hnxH.out; omega) (by have := hnyH.out; omega) J v5 hE5.out).mono ?_)
                rintro e w20 ⟨A28, c28, rfl, r28, q28, nJ, b20⟩
                have s20 : w19.heap.size ≤ w20.heap.size := b20.size
                replace hB := hB.trans (Below.mono b20 hB.size)
                replace hcd := hcd.st b20
                replace hS := hS.st b20
                replace rx := rx.st b20
                replace ry := ry.st b20
                clear b20
                go_wp2_with fail
                (with_reducible refine (sJoinLogs_k xs A26 nx c26 ys A27 ny c27 _ hnxH.out hnyH.out rx ry (by omega) (by omega) (by have := hnxH.out; omega) (by have := hnyH.out; omega) J v5 hE5.out).mono ?_)
                rintro e w21 ⟨A30, c30, rfl, r30, -, b21⟩
                have s21 : w20.heap.size ≤ w21.heap.size := b21.size
                replace hB := hB.trans (Below.mono b21 hB.size)
                replace hcd := hcd.st b21
                replace hS := hS.st b21
                replace rx := rx.st b21
                replace ry := ry.st b21
                replace r28 := r28.st b21
                clear b21
                obtain ⟨nj, hnj⟩ : ∃ n, n = J.length := ⟨_, rfl⟩
                have hnjH := Lib.hid hnj
                rw [← hnj] at q28 ⊢
                clear hnj
                go_wp2_with fail
                (with_reducible refine (pSameLog_t J A28 A30 nj nj c28 c30 _ hnjH.out hnjH.out r28 r30 nJ).mono ?_)
                rintro e w22 ⟨rfl, b22⟩
                have s22 : w21.heap.size ≤ w22.heap.size := b22.size
                replace hB := hB.trans (Below.mono b22 hB.size)
                replace hcd := hcd.st b22
                replace hS := hS.st b22
                replace rx := rx.st b22
                replace ry := ry.st b22
                replace r28 := r28.st b22
                replace r30 := r30.st b22
                clear b22
                clear r30
                go_upto_if 227 with fail
                go_cut [] (fun wq => Below w.heap.size w wq ∧ CodeAt wq wq.heap.size A2 n2 ∧ Sen wq)
                case first =>
                  as_aux_lemma =>
                    cases v5 with
                    | false =>
                      have hall := Lib.hid (And.intro hB (And.intro hcd hS))
                      clear hB hcd hS
                      clear rx ry r28
                      go_wp2_with fail
                      go_meet
                      case rel => exact ⟨hall.out.1, hall.out.2.1, hall.out.2.2⟩
                    | true =>
                      obtain ⟨w1, w2x, w3x, w4x, w5x, w6x, w7x, -, -⟩ := jl_fact hE5.out.2 hE5.out.1
                      have hln : (nj : Int) = (nx : Int) + (ny : Int) := by rw [hnjH.out, w1, hnxH.out, hnyH.out]; omega
                      obtain ⟨VJ, hVJ⟩ : ∃ u, ssV J = u := ⟨_, rfl⟩
                      obtain ⟨VX, hVX⟩ : ∃ u, ssV xs = u := ⟨_, rfl⟩
                      obtain ⟨VY, hVY⟩ : ∃ u, ssV ys = u := ⟨_, rfl⟩
                      rw [hVJ, hVX, hVY] at w5x
                      rw [hVX] at w6x
                      rw [hVY] at w7x
                      have pJ := Lib.hid (And.intro hVJ w4x)
                      have pX := Lib.hid (And.intro hVX w2x)
                      have pY := Lib.hid (And.intro hVY w3x)
                      clear w1 w2x w3x w4x hVJ hVX hVY
                      have hb1 : 0 ≤ (nx : Int) + (ny : Int) ∧ (nx : Int) + (ny : Int) ≤ 1000000000 := by omega
                      have hb2 : 0 ≤ VX + VY ∧ VX + VY ≤ 1000000000 := by omega
                      have hq1 : eszL xs ≤ 1048576 := by omega
                      have hq2 : xs.length ≤ c26 := by have := hnxH.out; omega
                      have hq3 : eszL ys ≤ 1048576 := by omega
                      have hq4 : ys.length ≤ c27 := by have := hnyH.out; omega
                      have hq5 : J.length ≤ c28 := by have := hnjH.out; omega
                      obtain ⟨e1, e2⟩ := wrap_two hln hb1
                      obtain ⟨e3, e4⟩ := wrap_two w5x hb2
                      clear hb1 hb2 hln w5x w6x w7x
                      go_wp2_with fail
                      (with_reducible refine (iShownSignals_k J A28 nj c28 _ hnjH.out r28 nJ hq5 VJ true pJ.out).mono ?_)
                      rintro e w23 ⟨rfl, b23⟩
                      have s23 : w22.heap.size ≤ w23.heap.size := b23.size
                      replace hB := hB.trans (Below.mono b23 hB.size)
                      replace hcd := hcd.st b23
                      replace hS := hS.st b23
                      replace rx := rx.st b23
                      replace ry := ry.st b23
                      replace r28 := r28.st b23
                      clear b23
                      go_wp2_with fail
                      (with_reducible refine (iShownSignals_k xs A26 nx c26 _ hnxH.out rx hq1 hq2 VX true pX.out).mono ?_)
                      rintro e w24 ⟨rfl, b24⟩
                      have s24 : w23.heap.size ≤ w24.heap.size := b24.size
                      replace hB := hB.trans (Below.mono b24 hB.size)
                      replace hcd := hcd.st b24
                      replace hS := hS.st b24
                      replace rx := rx.st b24
                      replace ry := ry.st b24
                      replace r28 := r28.st b24
                      clear b24
                      go_wp2_with fail
                      (with_reducible refine (iShownSignals_k ys A27 ny c27 _ hnyH.out ry hq3 hq4 VY true pY.out).mono ?_)
                      rintro e w25 ⟨rfl, b25⟩
                      have s25 : w24.heap.size ≤ w25.heap.size := b25.size
                      replace hB := hB.trans (Below.mono b25 hB.size)
                      replace hcd := hcd.st b25
                      replace hS := hS.st b25
                      replace rx := rx.st b25
                      replace ry := ry.st b25
                      replace r28 := r28.st b25
                      clear b25
                      have hall := Lib.hid (And.intro hB (And.intro hcd hS))
                      clear hB hcd hS
                      clear rx ry r28
                      go_wp2_with fail
                      go_meet
                      case rel => exact ⟨hall.out.1, hall.out.2.1, hall.out.2.2⟩
                case rest =>
                  as_aux_lemma =>
                    clear hB hcd hS rx ry r28
                    obtain ⟨hB, hcd, hS⟩ := hcut
                    obtain ⟨we, rfl⟩ : ∃ u, u = wc := ⟨_, rfl⟩
                    clear hE5 hnxH hnyH
                    go_wp2_with fail
                    (with_reducible refine (drawParseLog_any A2 n2 c2 _ hcd m2 h2).mono ?_)
                    rintro e w26 ⟨t, rfl, ht, b26⟩
                    have s26 : we.heap.size ≤ w26.heap.size := b26.size
                    replace hB := hB.trans (Below.mono b26 hB.size)
                    replace hcd := hcd.st b26
                    replace hS := hS.st b26
                    clear b26
                    obtain ⟨L7, hL7⟩ : ∃ u, plL t.data.toList = u := ⟨_, rfl⟩
                    obtain ⟨v7, hv7⟩ : ∃ u, plB t.data.toList = u := ⟨_, rfl⟩
                    have hE7 := Lib.hid (And.intro hL7 hv7)
                    clear hL7 hv7
                    go_wp2_with fail
                    (with_reducible refine (iParseLog_k t _ (by omega) hS L7 v7 hE7.out).mono ?_)
                    rintro e w27 ⟨A39, c39, rfl, r39, n7, b27⟩
                    have s27 : w26.heap.size ≤ w27.heap.size := b27.size
                    replace hB := hB.trans (Below.mono b27 hB.size)
                    replace hcd := hcd.st b27
                    replace hS := hS.st b27
                    clear b27
                    clear hS
                    go_wp2_with fail
                    (with_reducible refine (sParseLog_k t _ (by omega) L7 v7 hE7.out).mono ?_)
                    rintro e w28 ⟨A41, c41, rfl, r41, -, b28⟩
                    have s28 : w27.heap.size ≤ w28.heap.size := b28.size
                    replace hB := hB.trans (Below.mono b28 hB.size)
                    replace hcd := hcd.st b28
                    replace r39 := r39.st b28
                    clear b28
                    go_wp2_with fail
                    (with_reducible refine (drawFindEntry_any A2 n2 c2 _ hcd m2 h2).mono ?_)
                    rintro e w29 ⟨zs, A43, c43, mz, pz, rfl, ⟨z1, z2, z3⟩, rz, b29⟩
                    have s29 : w28.heap.size ≤ w29.heap.size := b29.size
                    replace hB := hB.trans (Below.mono b29 hB.size)
                    replace hcd := hcd.st b29
                    replace r39 := r39.st b29
                    replace r41 := r41.st b29
                    clear b29
                    clear hcd
                    obtain ⟨nz, hnz⟩ : ∃ n, n = zs.length := ⟨_, rfl⟩
                    have hnzH := Lib.hid hnz
                    rw [← hnz] at z1 z3 ⊢
                    clear hnz
                    obtain ⟨V9, hV9⟩ : ∃ u, feV zs mz pz = u := ⟨_, rfl⟩
                    obtain ⟨v9, hv9⟩ : ∃ u, feB zs mz pz = u := ⟨_, rfl⟩
                    have hE9 := Lib.hid (And.intro hV9 hv9)
                    clear hV9 hv9
                    go_wp2_with fail
                    (with_reducible refine (iFindEntry_k mz pz zs A43 nz c43 _ hnzH.out rz (by omega) (by have := hnzH.out; omega) V9 v9 hE9.out).mono ?_)
                    rintro e w30 ⟨rfl, b30⟩
                    have s30 : w29.heap.size ≤ w30.heap.size := b30.size
                    replace hB := hB.trans (Below.mono b30 hB.size)
                    replace r39 := r39.st b30
                    replace r41 := r41.st b30
                    replace rz := rz.st b30
                    clear b30
                    go_wp2_with fail
                    (with_reducible refine (sFindEntry_k mz pz zs A43 nz c43 _ hnzH.out rz (by omega) V9 v9 hE9.out).mono ?_)
                    rintro e w31 ⟨rfl, b31⟩
                    have s31 : w30.heap.size ≤ w31.heap.size := b31.size
                    replace hB := hB.trans (Below.mono b31 hB.size)
                    replace r39 := r39.st b31
                    replace r41 := r41.st b31
                    replace rz := rz.st b31
                    clear b31
                    go_wp2_with fail
                    (with_reducible refine (pSameLog_t L7 A39 A41 L7.length L7.length c39 c41 _ rfl rfl r39 r41 n7).mono ?_)
                    rintro e w32 ⟨rfl, b32⟩
                    have s32 : w31.heap.size ≤ w32.heap.size := b32.size
                    replace hB := hB.trans (Below.mono b32 hB.size)
                    replace r39 := r39.st b32
                    replace r41 := r41.st b32
                    replace rz := rz.st b32
                    clear b32
                    have hBH := Lib.hid hB
                    clear hB r39 r41 rz
                    go_wp2_with fail
                    go_ret
                    exact ⟨rfl, hBH.out⟩
  · go_wp2_with fail
    go_ret
    exact ⟨rfl, Below.refl _ _⟩
end Go.Proofs.YtjhbffndiaggmaaGreatDoor
