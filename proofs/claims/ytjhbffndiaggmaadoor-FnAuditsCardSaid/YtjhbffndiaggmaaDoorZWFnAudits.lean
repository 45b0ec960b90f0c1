/-
  The walk through FnAudits. The conditions are bounds on lengths.
-/
import Derived.Test.YtjhbffndiaggmaaDoorB24
import Derived.Test.YtjhbffndiaggmaaDoorZFactA
import Derived.Test.YtjhbffndiaggmaaDoorB26
import Derived.Test.YtjhbffndiaggmaaDoorB30
import Derived.Deep.DeepCutAuto
import Derived.Deep.CutBlock
import Derived.Deep.QuietTactic
import Derived.BigQuiet
import Derived.Laws.Closers25
namespace Go.Proofs.YtjhbffndiaggmaaDoor
open Go.RowKit Go.ChangeShapes Go.WideShapes
set_option linter.unusedVariables false
set_option linter.unusedSimpArgs false

theorem str_ne {l : List UInt8} (h : l ≠ []) : ¬ str l = ByteArray.empty := fun e => h (str_inj (b := []) e)
theorem qInts_q (xs ys : List Int) (A A' : Option Addr) (k k' c c' : Nat) {l h l' h' : Nat} (w : World) (n : Nat) (hk : k = xs.length) (hk' : k' = ys.length) (hx : Rd w l h A xs) (hy : Rd w l' h' A' ys) (hl : xs.length ≤ 1048576) (hl' : ys.length ≤ 1048576) (v : Bool) (hv : eqL xs ys = v) :
    Calls Tryd.prog 20 #[.slice A k c, .slice A' k' c'] (w.drewN n) fun e w'' => e = .returned (.bool v) ∧ ∃ m, w'' = w.drewN m := by
  subst hk hk' hv
  exact Calls.quiet_of ((qInts_any xs ys A A' c c' (w.drewN n) (hx.drewN n) (hy.drewN n) (by omega) (by omega)).mono fun e w' ⟨he, m, hm⟩ => ⟨he, m, hm.symm⟩)
/-- the first three of four -/
theorem Rd.three {w : World} {lo hi : Nat} {A : Option Addr} {m p q i : Int} (h : Rd w lo hi A [m, p, q, i]) : Rd w lo hi A [m, p, q] := fun _ => by
  obtain ⟨b, off, he, h1, h2, hc⟩ := h (by simp)
  refine ⟨b, off, he, h1, h2, fun j hj => ?_⟩
  have h3 := hc j (by simp at hj ⊢; omega)
  rw [h3]
  match j, hj with
  | 0, _ => rfl
  | 1, _ => rfl
  | 2, _ => rfl
/-- two logs, as a slice made of them -/
theorem RdEE.two {w : World} {A B : Option Addr} {c d : Nat} {a b : List Ent} (ha : RdE w 0 w.heap.size A a) (hb : RdE w 0 w.heap.size B b) (hc : a.length ≤ c) (hd : b.length ≤ d) (t : TypeId) :
    RdEE (w.alloc (.cells #[.slice A a.length c, .slice B b.length d] t)) 0 (w.heap.size + 1) (some ⟨w.heap.size, 0, none⟩) [a, b] := fun _ => by
  have bk := Bk.new w t #[.slice A a.length c, .slice B b.length d]
  refine ⟨w.heap.size, 0, rfl, Nat.zero_le _, Nat.lt_succ_self _, fun j hj => ?_⟩
  rw [Nat.zero_add]
  match j, hj with
  | 0, _ => exact ⟨A, c, bk.cell 0, (ha.alloc _).mono (Nat.zero_le _) (by omega), hc⟩
  | 1, _ => exact ⟨B, d, bk.cell 1, (hb.alloc _).mono (Nat.zero_le _) (by omega), hd⟩
theorem OwnI.rowc {w : World} {lo hi : Nat} {A : Option Addr} {n c : Nat} {L : List (List Int)} (h : OwnI w lo hi (.slice A n c) L) {k : Nat} (hk : k < L.length) :
    ∃ g A1 c1, A = some ⟨g, 0, none⟩ ∧ w.cell? ⟨g, k, none⟩ = some (.slice A1 L[k].length c1) ∧ Rd w lo hi A1 L[k] ∧ L[k].length ≤ c1 ∧ n = L.length := by
  rcases h with ⟨he, rfl⟩ | ⟨g, cap, cur, U, he, a1, a2, hg, c1, c2, c3, hj, hd⟩
  · simp at hk
  · obtain ⟨x0, hu⟩ := hj k hk
    obtain ⟨A1, d1, e1, r1, _⟩ := hu.rd
    rw [e1] at hu x0
    injection he with e2 e3 e4
    exact ⟨g, A1, d1, e2, (cell_of_row w g k cur _ _ hg).trans x0, r1, hu.len.2, e3⟩
set_option maxHeartbeats 1000000 in
theorem iLineFaults_l (es : List (List Ent)) (A : Option Addr) (n c : Nat) {l h : Nat} (w : World) (hn : n = es.length) (hr : RdEE w l h A es) (hl : esszL es ≤ 1048576) (L : List (List Int)) (b : Bool) (hE : llL es = L ∧ logsB es = b) :
    Calls Tryd.prog 5 #[.slice A n c] w fun e w' => ∃ A c, e = .returned (.tuple #[.slice A L.length c, .bool b]) ∧ RdI w' 0 w'.heap.size A L ∧ iszL L ≤ 1048576 ∧ Below w.heap.size w w' := by
  obtain ⟨rfl, rfl⟩ := hE
  subst hn
  refine (iLineFaults_any es A c w hr hl).mono ?_
  rintro e w' ⟨A', c', rfl, ho, hL, hb⟩
  exact ⟨A', c', rfl, ho.rd'.std, hL, hb⟩
set_option maxHeartbeats 1000000 in
theorem sLineFaults_l (es : List (List Ent)) (A : Option Addr) (n c : Nat) {l h : Nat} (w : World) (hn : n = es.length) (hr : RdEE w l h A es) (hl : esszL es ≤ 1048576) (L : List (List Int)) (b : Bool) (hE : llL es = L ∧ logsB es = b) :
    Calls Tryd.prog 6 #[.slice A n c] w fun e w' => ∃ A c, e = .returned (.tuple #[.slice A L.length c, .bool b]) ∧ OwnI w' w.heap.size w'.heap.size (.slice A L.length c) L ∧ iszL L ≤ 1048576 ∧ Below w.heap.size w w' := by
  obtain ⟨rfl, rfl⟩ := hE
  subst hn
  have hr := hr.std
  cases q1 : logsB es with
  | false =>
    rw [llL_no q1]
    go_enter Tryd.func6, Tryd.ntmps6
    go_wp2_with (go_at_call 25; (with_reducible refine (auGood_w es A c _ hr hl _ q1).mono ?_); rintro e w1 ⟨rfl, hb1⟩)
    go_ret2
    exact ⟨none, 0, rfl, OwnI.nil, by rw [isz_nil]; omega, hb1⟩
  | true =>
    rw [llL_yes q1]
    have hsz := Lib.hid (lfL_sz q1)
    go_enter Tryd.func6, Tryd.ntmps6
    go_wp2_with fail
    (with_reducible refine (auGood_w es A c _ hr hl _ q1).mono ?_)
    rintro e w1 ⟨rfl, hb1⟩
    have sz := hb1.size
    go_wp2_with fail
    (with_reducible refine (auLine_any es A c _ (hr.st hb1) hl q1).mono ?_)
    rintro e w3 ⟨A3, c3, rfl, ho3, hb3⟩
    have hB := hb1.trans (hb3.mono sz)
    clear hb3
    have ho := Lib.hid (ho3.mono sz (Nat.le_refl _))
    clear ho3
    go_wp2
    go_ret2
    exact ⟨_, _, rfl, ho.out, by have := hsz.out; omega, hB⟩
theorem iFaultCounts_l (es : List (List Ent)) (A : Option Addr) (c : Nat) {l h : Nat} (w : World) (hr : RdEE w l h A es) (hl : esszL es ≤ 1048576) (C : List Int) (b : Bool) (hE : fcL es = C ∧ logsB es = b) :
    Calls Tryd.prog 7 #[.slice A es.length c] w fun e w' => ∃ A c, e = .returned (.tuple #[.slice A C.length c, .bool b]) ∧ Rd w' 0 w'.heap.size A C ∧ C.length ≤ 1048576 ∧ Below w.heap.size w w' := by
  obtain ⟨rfl, rfl⟩ := hE
  refine (iFaultCounts_any es A c w hr hl).mono ?_
  rintro e w' ⟨A', c', rfl, ho, hL, hb⟩
  exact ⟨A', c', rfl, ho.rd'.std, hL, hb⟩
theorem iMostSuspect_l (es : List (List Ent)) (A : Option Addr) (c : Nat) {l h : Nat} (w : World) (hr : RdEE w l h A es) (hl : esszL es ≤ 1048576) (S M : Int) (t : Bool) (hE : msI es = S ∧ msM es = M ∧ msB es = t) :
    Calls Tryd.prog 9 #[.slice A es.length c] w fun e w' => e = .returned (.tuple #[.int .i64 S, .int .i64 M, .bool t]) ∧ Below w.heap.size w w' := by
  obtain ⟨rfl, rfl, rfl⟩ := hE
  exact iMostSuspect_any es A c w hr hl
theorem iIsTrueLine_l (es : List (List Ent)) (A : Option Addr) (c : Nat) {l h : Nat} (w : World) (hr : RdEE w l h A es) (hl : esszL es ≤ 1048576) (u b : Bool) (hE : itB es = u ∧ logsB es = b) :
    Calls Tryd.prog 11 #[.slice A es.length c] w fun e w' => e = .returned (.tuple #[.bool u, .bool b]) ∧ Below w.heap.size w w' := by
  obtain ⟨rfl, rfl⟩ := hE
  exact iIsTrueLine_any es A c w hr hl
theorem iPairFaults_l (a : List Ent) (A : Option Addr) (c : Nat) (b : List Ent) (B : Option Addr) (d : Nat) {l h l' h' : Nat} (w : World) (hr : RdE w l h A a) (hrb : RdE w l' h' B b) (hl : eszL a ≤ 1048576) (hlb : eszL b ≤ 1048576) (hca : a.length ≤ c) (hcb : b.length ≤ d) (Q : List (List Int)) (v : Bool) (hE : ppL a b = Q ∧ ppB a b = v) :
    Calls Tryd.prog 14 #[.slice A a.length c, .slice B b.length d] w fun e w' => ∃ A c, e = .returned (.tuple #[.slice A Q.length c, .bool v]) ∧ RdI w' 0 w'.heap.size A Q ∧ iszL Q ≤ 1048576 ∧ Below w.heap.size w w' := by
  obtain ⟨rfl, rfl⟩ := hE
  refine (iPairFaults_any a A c b B d w hr hrb hl hlb hca hcb).mono ?_
  rintro e w' ⟨A', c', rfl, ho, hL, hb⟩
  exact ⟨A', c', rfl, ho.rd'.std, hL, hb⟩
theorem iFaultText_l (l : List Int) (A : Option Addr) (n cc : Nat) {lo hi : Nat} (w : World) (hn : n = l.length) (hr : Rd w lo hi A l) (hl : l.length ≤ 1048576) (hcap : l.length ≤ cc) (hP : Pow w) (T : ByteArray) (x : Bool) (hE : str (ftL l) = T ∧ ftB l = x) :
    Calls Tryd.prog 17 #[.slice A n cc] w fun e w' => e = .returned (.tuple #[.string T, .bool x]) ∧ Below w.heap.size w w' := by
  obtain ⟨rfl, rfl⟩ := hE
  subst hn
  exact iFaultText_any l A cc w hr (by omega) hcap hP
theorem sFaultCounts_l (es : List (List Ent)) (A : Option Addr) (c : Nat) {l h : Nat} (w : World) (hr : RdEE w l h A es) (hl : esszL es ≤ 1048576) (C : List Int) (b : Bool) (hE : fcL es = C ∧ logsB es = b) :
    Calls Tryd.prog 8 #[.slice A es.length c] w fun e w' => ∃ A c, e = .returned (.tuple #[.slice A C.length c, .bool b]) ∧ Rd w' 0 w'.heap.size A C ∧ C.length ≤ 1048576 ∧ Below w.heap.size w w' := by
  obtain ⟨rfl, rfl⟩ := hE
  refine (sFaultCounts_any es A c w hr hl).mono ?_
  rintro e w' ⟨A', c', rfl, ho, hL, hb⟩
  exact ⟨A', c', rfl, ho, hL, hb⟩
theorem sMostSuspect_l (es : List (List Ent)) (A : Option Addr) (c : Nat) {l h : Nat} (w : World) (hr : RdEE w l h A es) (hl : esszL es ≤ 1048576) (S M : Int) (t : Bool) (hE : msI es = S ∧ msM es = M ∧ msB es = t) :
    Calls Tryd.prog 10 #[.slice A es.length c] w fun e w' => e = .returned (.tuple #[.int .i64 S, .int .i64 M, .bool t]) ∧ Below w.heap.size w w' := by
  obtain ⟨rfl, rfl, rfl⟩ := hE
  exact sMostSuspect_any es A c w hr hl
theorem sIsTrueLine_l (es : List (List Ent)) (A : Option Addr) (c : Nat) {l h : Nat} (w : World) (hr : RdEE w l h A es) (hl : esszL es ≤ 1048576) (u b : Bool) (hE : itB es = u ∧ logsB es = b) :
    Calls Tryd.prog 12 #[.slice A es.length c] w fun e w' => e = .returned (.tuple #[.bool u, .bool b]) ∧ Below w.heap.size w w' := by
  obtain ⟨rfl, rfl⟩ := hE
  exact sIsTrueLine_any es A c w hr hl
theorem sPairFaults_l (a : List Ent) (A : Option Addr) (c : Nat) (b : List Ent) (B : Option Addr) (d : Nat) {l h l' h' : Nat} (w : World) (hr : RdE w l h A a) (hrb : RdE w l' h' B b) (hl : eszL a ≤ 1048576) (hlb : eszL b ≤ 1048576) (hca : a.length ≤ c) (hcb : b.length ≤ d) (Q : List (List Int)) (v : Bool) (hE : ppL a b = Q ∧ ppB a b = v) :
    Calls Tryd.prog 15 #[.slice A a.length c, .slice B b.length d] w fun e w' => ∃ A c, e = .returned (.tuple #[.slice A Q.length c, .bool v]) ∧ RdI w' 0 w'.heap.size A Q ∧ iszL Q ≤ 1048576 ∧ Below w.heap.size w w' := by
  obtain ⟨rfl, rfl⟩ := hE
  refine (sPairFaults_any a A c b B d w hr hrb hl hlb).mono ?_
  rintro e w' ⟨A', c', rfl, ho, hL, hb⟩
  exact ⟨A', c', rfl, ho, hL, hb⟩
theorem sFaultText_l (l : List Int) (A : Option Addr) (n cc : Nat) {lo hi : Nat} (w : World) (hn : n = l.length) (hr : Rd w lo hi A l) (hl : l.length ≤ 1048576) (hcap : l.length ≤ cc) (hP : Pow w) (T : ByteArray) (x : Bool) (hE : str (ftL l) = T ∧ ftB l = x) :
    Calls Tryd.prog 18 #[.slice A n cc] w fun e w' => e = .returned (.tuple #[.string T, .bool x]) ∧ Below w.heap.size w w' := by
  obtain ⟨rfl, rfl⟩ := hE
  subst hn
  exact sFaultText_any l A cc w hr (by omega)
theorem iAreLogs_l (es : List (List Ent)) (A : Option Addr) (c : Nat) {l h : Nat} (w : World) (hr : RdEE w l h A es) (hl : esszL es ≤ 1048576) (b : Bool) (hE : logsB es = b) :
    Calls Tryd.prog 21 #[.slice A es.length c] w fun e w' => e = .returned (.bool b) ∧ Below w.heap.size w w' := by
  subst hE; exact iAreLogs_any es A c w hr hl
theorem sFindEntry_l (es : List Ent) (A : Option Addr) (n c : Nat) (m p : Int) {l h : Nat} (w : World) (hn : n = es.length) (hr : RdE w l h A es) (hl : eszL es ≤ 1048576) (V : Int) (b : Bool) (hV : feB es m p = b ∧ feV es m p = V) :
    Calls Tryd.prog 22 #[.slice A n c, .int .i64 m, .int .i64 p] w fun e w' => e = .returned (.tuple #[.int .i64 V, .bool b]) ∧ Below w.heap.size w w' := by
  obtain ⟨rfl, rfl⟩ := hV
  subst hn; exact sFindEntry_any es A c m p w hr hl
set_option maxRecDepth 100000 in
set_option maxHeartbeats 16000000 in
theorem fnAudits_walk (A1 A2 : Option Addr) (n1 c1 n2 c2 : Nat) (w : World) (h1 : n1 ≤ c1) (h2 : n2 ≤ c2) (m1 : n1 ≤ 9223372036854775807) (m2 : n2 ≤ 9223372036854775807) (hcd1 : CodeAt w w.heap.size A1 n1) (hcd2 : CodeAt w w.heap.size A2 n2) (hP : Pow w) :
    Calls Tryd.prog 3 #[.slice A1 n1 c1, .slice A2 n2 c2] w fun e w' => e = .returned (.bool true) ∧ Below w.heap.size w w' := by
  go_enter Tryd.func3, Tryd.ntmps3
  obtain ⟨z, hz⟩ : ∃ z, wrap64 ((n1 : Int) + (n2 : Int)) = z := ⟨_, rfl⟩
  by_cases hbig : (1048576 : Int) < z
  · go_wp2_with fail
    go_ret
    exact ⟨rfl, Below.refl _ _⟩
  · go_wp2_with fail
    clear hz hbig
    have hB := Below.refl w.heap.size w
    have hcd := hcd2
    (with_reducible refine (drawLineFaults_any A1 n1 c1 _ hcd1 m1 h1).mono ?_)
    rintro e w1 ⟨es, A, c, rfl, ⟨hen, hez, hec⟩, hr, b1⟩
    have s1 : w.heap.size ≤ w1.heap.size := b1.size
    replace hB := hB.trans (Below.mono b1 hB.size)
    replace hcd := hcd.st b1
    replace hP := hP.st b1
    clear b1
    clear hcd1
    replace hr := hr.std
    obtain ⟨L, hL⟩ : ∃ u, llL es = u := ⟨_, rfl⟩
    obtain ⟨b, hb⟩ : ∃ u, logsB es = u := ⟨_, rfl⟩
    obtain ⟨C, hC⟩ : ∃ u, fcL es = u := ⟨_, rfl⟩
    obtain ⟨S, hS⟩ : ∃ u, msI es = u := ⟨_, rfl⟩
    obtain ⟨M, hM⟩ : ∃ u, msM es = u := ⟨_, rfl⟩
    obtain ⟨t, ht⟩ : ∃ u, msB es = u := ⟨_, rfl⟩
    obtain ⟨u, hu⟩ : ∃ u, itB es = u := ⟨_, rfl⟩
    have hLb := Lib.hid (And.intro hL hb)
    have hCb := Lib.hid (And.intro hC hb)
    have hSM := Lib.hid (And.intro hS (And.intro hM ht))
    have hub := Lib.hid (And.intro hu hb)
    clear hL hb hC hS hM ht hu
    go_wp2_with fail
    (with_reducible refine (iLineFaults_l es A es.length c _ rfl hr (by omega) L b hLb.out).mono ?_)
    rintro e w2 ⟨B6, d6, rfl, r6, nL, b2⟩
    have s2 : w1.heap.size ≤ w2.heap.size := b2.size
    replace hB := hB.trans (Below.mono b2 hB.size)
    replace hcd := hcd.st b2
    replace hP := hP.st b2
    replace hr := hr.st b2
    clear b2
    go_wp2_with fail
    (with_reducible refine (sLineFaults_l es A es.length c _ rfl hr (by omega) L b hLb.out).mono ?_)
    rintro e w3 ⟨B8, d8, rfl, oF, -, b3⟩
    have s3 : w2.heap.size ≤ w3.heap.size := b3.size
    replace hB := hB.trans (Below.mono b3 hB.size)
    replace hcd := hcd.st b3
    replace hP := hP.st b3
    replace hr := hr.st b3
    replace r6 := r6.st b3
    clear b3
    go_wp2_with fail
    (with_reducible refine (iFaultCounts_l es A c _ hr (by omega) C b hCb.out).mono ?_)
    rintro e w4 ⟨B10, d10, rfl, r10, nC, b4⟩
    have s4 : w3.heap.size ≤ w4.heap.size := b4.size
    replace hB := hB.trans (Below.mono b4 hB.size)
    replace hcd := hcd.st b4
    replace hP := hP.st b4
    replace hr := hr.st b4
    replace r6 := r6.st b4
    replace oF := oF.st b4
    clear b4
    go_wp2_with fail
    (with_reducible refine (sFaultCounts_l es A c _ hr (by omega) C b hCb.out).mono ?_)
    rintro e w5 ⟨B12, d12, rfl, r12, -, b5⟩
    have s5 : w4.heap.size ≤ w5.heap.size := b5.size
    replace hB := hB.trans (Below.mono b5 hB.size)
    replace hcd := hcd.st b5
    replace hP := hP.st b5
    replace hr := hr.st b5
    replace r6 := r6.st b5
    replace oF := oF.st b5
    replace r10 := r10.st b5
    clear b5
    go_wp2_with fail
    (with_reducible refine (iMostSuspect_l es A c _ hr (by omega) S M t hSM.out).mono ?_)
    rintro e w6 ⟨rfl, b6⟩
    have s6 : w5.heap.size ≤ w6.heap.size := b6.size
    replace hB := hB.trans (Below.mono b6 hB.size)
    replace hcd := hcd.st b6
    replace hP := hP.st b6
    replace hr := hr.st b6
    replace r6 := r6.st b6
    replace oF := oF.st b6
    replace r10 := r10.st b6
    replace r12 := r12.st b6
    clear b6
    go_wp2_with fail
    (with_reducible refine (sMostSuspect_l es A c _ hr (by omega) S M t hSM.out).mono ?_)
    rintro e w7 ⟨rfl, b7⟩
    have s7 : w6.heap.size ≤ w7.heap.size := b7.size
    replace hB := hB.trans (Below.mono b7 hB.size)
    replace hcd := hcd.st b7
    replace hP := hP.st b7
    replace hr := hr.st b7
    replace r6 := r6.st b7
    replace oF := oF.st b7
    replace r10 := r10.st b7
    replace r12 := r12.st b7
    clear b7
    go_wp2_with fail
    (with_reducible refine (iIsTrueLine_l es A c _ hr (by omega) u b hub.out).mono ?_)
    rintro e w8 ⟨rfl, b8⟩
    have s8 : w7.heap.size ≤ w8.heap.size := b8.size
    replace hB := hB.trans (Below.mono b8 hB.size)
    replace hcd := hcd.st b8
    replace hP := hP.st b8
    replace hr := hr.st b8
    replace r6 := r6.st b8
    replace oF := oF.st b8
    replace r10 := r10.st b8
    replace r12 := r12.st b8
    clear b8
    go_wp2_with fail
    (with_reducible refine (sIsTrueLine_l es A c _ hr (by omega) u b hub.out).mono ?_)
    rintro e w9 ⟨rfl, b9⟩
    have s9 : w8.heap.size ≤ w9.heap.size := b9.size
    replace hB := hB.trans (Below.mono b9 hB.size)
    replace hcd := hcd.st b9
    replace hP := hP.st b9
    replace hr := hr.st b9
    replace r6 := r6.st b9
    replace oF := oF.st b9
    replace r10 := r10.st b9
    replace r12 := r12.st b9
    clear b9
    go_wp2_with fail
    (with_reducible refine (drawPairFaults_any A2 n2 c2 _ hcd m2 h2).mono ?_)
    rintro e w10 ⟨a, b2, A24, c24, B25, c25, rfl, ⟨g1, g2, g3, g4, g5, g6⟩, ra, rb, b10⟩
    have s10 : w9.heap.size ≤ w10.heap.size := b10.size
    replace hB := hB.trans (Below.mono b10 hB.size)
    replace hcd := hcd.st b10
    replace hP := hP.st b10
    replace hr := hr.st b10
    replace r6 := r6.st b10
    replace oF := oF.st b10
    replace r10 := r10.st b10
    replace r12 := r12.st b10
    clear b10
    replace ra := ra.std
    replace rb := rb.std
    obtain ⟨Q, hQ⟩ : ∃ u, ppL a b2 = u := ⟨_, rfl⟩
    obtain ⟨v, hv⟩ : ∃ u, ppB a b2 = u := ⟨_, rfl⟩
    have hQQ := Lib.hid (And.intro hQ hv)
    clear hQ hv
    go_wp2_with fail
    (with_reducible refine (iPairFaults_l a A24 c24 b2 B25 c25 _ ra rb (by omega) (by omega) g5 g6 Q v hQQ.out).mono ?_)
    rintro e w11 ⟨B26, d26, rfl, r26, nQ, b11⟩
    have s11 : w10.heap.size ≤ w11.heap.size := b11.size
    replace hB := hB.trans (Below.mono b11 hB.size)
    replace hcd := hcd.st b11
    replace hP := hP.st b11
    replace hr := hr.st b11
    replace r6 := r6.st b11
    replace oF := oF.st b11
    replace r10 := r10.st b11
    replace r12 := r12.st b11
    replace ra := ra.st b11
    replace rb := rb.st b11
    clear b11
    go_wp2_with fail
    (with_reducible refine (sPairFaults_l a A24 c24 b2 B25 c25 _ ra rb (by omega) (by omega) g5 g6 Q v hQQ.out).mono ?_)
    rintro e w12 ⟨B28, d28, rfl, r28, -, b12⟩
    have s12 : w11.heap.size ≤ w12.heap.size := b12.size
    replace hB := hB.trans (Below.mono b12 hB.size)
    replace hcd := hcd.st b12
    replace hP := hP.st b12
    replace hr := hr.st b12
    replace r6 := r6.st b12
    replace oF := oF.st b12
    replace r10 := r10.st b12
    replace r12 := r12.st b12
    replace ra := ra.st b12
    replace rb := rb.st b12
    replace r26 := r26.st b12
    clear b12
    go_wp2_with fail
    (with_reducible refine (drawFaultText_any A2 n2 c2 _ hcd m2 h2).mono ?_)
    rintro e w13 ⟨zs, A30, c30, rfl, ⟨hz4, hzc⟩, rz, b13⟩
    have s13 : w12.heap.size ≤ w13.heap.size := b13.size
    replace hB := hB.trans (Below.mono b13 hB.size)
    replace hcd := hcd.st b13
    replace hP := hP.st b13
    replace hr := hr.st b13
    replace r6 := r6.st b13
    replace oF := oF.st b13
    replace r10 := r10.st b13
    replace r12 := r12.st b13
    replace ra := ra.st b13
    replace rb := rb.st b13
    replace r26 := r26.st b13
    replace r28 := r28.st b13
    clear b13
    clear hcd
    obtain ⟨T, hT⟩ : ∃ u, str (ftL zs) = u := ⟨_, rfl⟩
    obtain ⟨x, hx⟩ : ∃ u, ftB zs = u := ⟨_, rfl⟩
    have hTT := Lib.hid (And.intro hT hx)
    clear hT hx
    go_wp2_with fail
    (with_reducible refine (iFaultText_l zs A30 zs.length c30 _ rfl rz (by omega) hzc hP T x hTT.out).mono ?_)
    rintro e w14 ⟨rfl, b14⟩
    have s14 : w13.heap.size ≤ w14.heap.size := b14.size
    replace hB := hB.trans (Below.mono b14 hB.size)
    replace hP := hP.st b14
    replace hr := hr.st b14
    replace r6 := r6.st b14
    replace oF := oF.st b14
    replace r10 := r10.st b14
    replace r12 := r12.st b14
    replace ra := ra.st b14
    replace rb := rb.st b14
    replace r26 := r26.st b14
    replace r28 := r28.st b14
    replace rz := rz.st b14
    clear b14
    go_wp2_with fail
    (with_reducible refine (sFaultText_l zs A30 zs.length c30 _ rfl rz (by omega) hzc hP T x hTT.out).mono ?_)
    rintro e w15 ⟨rfl, b15⟩
    have s15 : w14.heap.size ≤ w15.heap.size := b15.size
    replace hB := hB.trans (Below.mono b15 hB.size)
    replace hP := hP.st b15
    replace hr := hr.st b15
    replace r6 := r6.st b15
    replace oF := oF.st b15
    replace r10 := r10.st b15
    replace r12 := r12.st b15
    replace ra := ra.st b15
    replace rb := rb.st b15
    replace r26 := r26.st b15
    replace r28 := r28.st b15
    replace rz := rz.st b15
    clear b15
    clear rz
    skip
    have hll := Lib.hid (show b = true → L.length ≤ 720 from fun h => by rw [← hLb.out.1, llL_yes (hLb.out.2.trans h)]; exact lfL_len (hLb.out.2.trans h))
    go_upto_region 18 with fail
    go_cut [215] (fun s6 wq => s6 = .bool false ∧ Below w.heap.size w wq ∧ Pow wq ∧ RdEE wq 0 wq.heap.size A es ∧ OwnI wq 0 wq.heap.size (.slice B8 L.length d8) L ∧ Rd wq 0 wq.heap.size B12 C ∧ RdE wq 0 wq.heap.size A24 a ∧ RdE wq 0 wq.heap.size B25 b2 ∧ RdI wq 0 wq.heap.size B28 Q)
    case first =>
      as_aux_lemma =>
        go_wp2_with fail
        (with_reducible refine (qLists_t L B6 B8 L.length L.length d6 d8 _ rfl rfl r6 oF.rd' nL).mono ?_)
        rintro e w16 ⟨rfl, b16⟩
        have s16 : w15.heap.size ≤ w16.heap.size := b16.size
        replace hB := hB.trans (Below.mono b16 hB.size)
        replace hP := hP.st b16
        replace hr := hr.st b16
        replace r6 := r6.st b16
        replace oF := oF.st b16
        replace r10 := r10.st b16
        replace r12 := r12.st b16
        replace ra := ra.st b16
        replace rb := rb.st b16
        replace r26 := r26.st b16
        replace r28 := r28.st b16
        clear b16
        clear r6
        go_wp2_with fail
        (with_reducible refine (qInts_t C B10 B12 C.length C.length d10 d12 _ rfl rfl r10 r12 nC).mono ?_)
        rintro e w17 ⟨rfl, b17⟩
        have s17 : w16.heap.size ≤ w17.heap.size := b17.size
        replace hB := hB.trans (Below.mono b17 hB.size)
        replace hP := hP.st b17
        replace hr := hr.st b17
        replace oF := oF.st b17
        replace r10 := r10.st b17
        replace r12 := r12.st b17
        replace ra := ra.st b17
        replace rb := rb.st b17
        replace r26 := r26.st b17
        replace r28 := r28.st b17
        clear b17
        clear r10
        go_wp2_with fail
        (with_reducible refine (qLists_t Q B26 B28 Q.length Q.length d26 d28 _ rfl rfl r26 r28 nQ).mono ?_)
        rintro e w18 ⟨rfl, b18⟩
        have s18 : w17.heap.size ≤ w18.heap.size := b18.size
        replace hB := hB.trans (Below.mono b18 hB.size)
        replace hP := hP.st b18
        replace hr := hr.st b18
        replace oF := oF.st b18
        replace r12 := r12.st b18
        replace ra := ra.st b18
        replace rb := rb.st b18
        replace r26 := r26.st b18
        replace r28 := r28.st b18
        clear b18
        clear r26
        go_wp2_with fail
        (with_reducible refine (iAreLogs_l es A c _ hr (by omega) b hLb.out.2).mono ?_)
        rintro e w19 ⟨rfl, b19⟩
        have s19 : w18.heap.size ≤ w19.heap.size := b19.size
        replace hB := hB.trans (Below.mono b19 hB.size)
        replace hP := hP.st b19
        replace hr := hr.st b19
        replace oF := oF.st b19
        replace r12 := r12.st b19
        replace ra := ra.st b19
        replace rb := rb.st b19
        replace r28 := r28.st b19
        clear b19
        replace hr := hr.std
        replace oF := oF.inH.mono (Nat.zero_le _) (Nat.le_refl _)
        replace r12 := r12.std
        replace ra := ra.std
        replace rb := rb.std
        replace r28 := r28.std
        have hall := Lib.hid (And.intro hB (And.intro hP (And.intro hr (And.intro oF (And.intro r12 (And.intro ra (And.intro rb r28)))))))
        clear hB hP hr oF r12 ra rb r28
        go_wp2_with fail
        go_meet
        case rel => exact ⟨by first | rfl | simp, hall.out.1, hall.out.2.1, hall.out.2.2.1, hall.out.2.2.2.1, hall.out.2.2.2.2.1, hall.out.2.2.2.2.2.1, hall.out.2.2.2.2.2.2.1, hall.out.2.2.2.2.2.2.2⟩
    case rest =>
      clear hB hP hr r6 oF r10 r12 ra rb r26 r28
      obtain ⟨rfl, hB, hP, hr, oF, r12, ra, rb, r28⟩ := hcut
      obtain ⟨wa, rfl⟩ : ∃ u, u = wc := ⟨_, rfl⟩
      go_upto_if 216 with fail
      go_cut [] (fun wq => Below w.heap.size w wq ∧ Pow wq ∧ RdEE wq 0 wq.heap.size A es ∧ OwnI wq 0 wq.heap.size (.slice B8 L.length d8) L ∧ Rd wq 0 wq.heap.size B12 C)
      case first =>
        as_aux_lemma =>
          cases v with
          | false =>
            have hall := Lib.hid (And.intro hB (And.intro hP (And.intro hr (And.intro oF r12))))
            clear hB hP hr oF r12
            clear ra rb r28
            go_wp2_with fail
            go_meet
            case rel => exact ⟨hall.out.1, hall.out.2.1, hall.out.2.2.1, hall.out.2.2.2.1, hall.out.2.2.2.2⟩
          | true =>
            obtain ⟨K, hK⟩ : ∃ K, lfL [a, b2] = K := ⟨_, rfl⟩
            have hpl := pair_logs hQQ.out.2
            have hKb := Lib.hid (And.intro ((llL_yes hpl).trans hK) hpl)
            have hKn : K.length ≤ 720 := by rw [← hK]; exact lfL_len hpl
            have hes2 : esszL [a, b2] ≤ 1048576 := by rw [show [a, b2] = [a] ++ [b2] from rfl, essz_append, essz_one, essz_one]; omega
            have hQ1 : pfL a b2 = Q := (ppL_yes hQQ.out.2).symm.trans hQQ.out.1
            have hKH := Lib.hid (And.intro hK hQ1)
            clear hpl hK hQ1
            go_wp2_with fail
            obtain ⟨w20, hw20⟩ : ∃ u, u = wa.alloc (.cells #[.slice A24 a.length c24, .slice B25 b2.length c25] 35) := ⟨_, rfl⟩
            rw [← hw20]
            have s20 : wa.heap.size + 1 ≤ w20.heap.size := by rw [hw20]; simp
            have b20 : Below wa.heap.size wa w20 := by rw [hw20]; exact (Below.refl _ _).alloc (Nat.le_refl _) _
            have re : RdEE w20 0 (wa.heap.size + 1) (some ⟨wa.heap.size, 0, none⟩) [a, b2] := by rw [hw20]; exact RdEE.two ra.std rb.std g5 g6 _
            clear hw20
            replace hB := hB.trans (Below.mono b20 hB.size)
            replace hP := hP.st b20
            replace hr := hr.st b20
            replace oF := oF.st b20
            replace r12 := r12.st b20
            replace ra := ra.st b20
            replace rb := rb.st b20
            replace r28 := r28.st b20
            clear b20
            (with_reducible refine (iLineFaults_l [a, b2] (some ⟨wa.heap.size, 0, none⟩) 2 2 _ rfl re hes2 K true hKb.out).mono ?_)
            rintro e w21 ⟨B35, d35, rfl, r35, nK, b21⟩
            have s21 : w20.heap.size ≤ w21.heap.size := b21.size
            replace hB := hB.trans (Below.mono b21 hB.size)
            replace hP := hP.st b21
            replace hr := hr.st b21
            replace oF := oF.st b21
            replace r12 := r12.st b21
            replace ra := ra.st b21
            replace rb := rb.st b21
            replace r28 := r28.st b21
            clear b21
            clear re
            go_wp2_with fail
            obtain ⟨w22, hw22⟩ : ∃ u, u = w21.alloc (.cells #[.slice A24 a.length c24, .slice B25 b2.length c25] 35) := ⟨_, rfl⟩
            rw [← hw22]
            have s22 : w21.heap.size + 1 ≤ w22.heap.size := by rw [hw22]; simp
            have b22 : Below w21.heap.size w21 w22 := by rw [hw22]; exact (Below.refl _ _).alloc (Nat.le_refl _) _
            have re : RdEE w22 0 (w21.heap.size + 1) (some ⟨w21.heap.size, 0, none⟩) [a, b2] := by rw [hw22]; exact RdEE.two ra.std rb.std g5 g6 _
            clear hw22
            replace hB := hB.trans (Below.mono b22 hB.size)
            replace hP := hP.st b22
            replace hr := hr.st b22
            replace oF := oF.st b22
            replace r12 := r12.st b22
            replace ra := ra.st b22
            replace rb := rb.st b22
            replace r28 := r28.st b22
            replace r35 := r35.st b22
            clear b22
            (with_reducible refine (sLineFaults_l [a, b2] (some ⟨w21.heap.size, 0, none⟩) 2 2 _ rfl re hes2 K true hKb.out).mono ?_)
            rintro e w23 ⟨B37, d37, rfl, r37, -, b23⟩
            have s23 : w22.heap.size ≤ w23.heap.size := b23.size
            replace hB := hB.trans (Below.mono b23 hB.size)
            replace hP := hP.st b23
            replace hr := hr.st b23
            replace oF := oF.st b23
            replace r12 := r12.st b23
            replace ra := ra.st b23
            replace rb := rb.st b23
            replace r28 := r28.st b23
            replace r35 := r35.st b23
            clear b23
            clear re
            go_wp2_with fail
            (with_reducible refine (qLists_t K B35 B37 K.length K.length d35 d37 _ rfl rfl r35 r37.rd' nK).mono ?_)
            rintro e w24 ⟨rfl, b24⟩
            have s24 : w23.heap.size ≤ w24.heap.size := b24.size
            replace hB := hB.trans (Below.mono b24 hB.size)
            replace hP := hP.st b24
            replace hr := hr.st b24
            replace oF := oF.st b24
            replace r12 := r12.st b24
            replace ra := ra.st b24
            replace rb := rb.st b24
            replace r28 := r28.st b24
            replace r35 := r35.st b24
            replace r37 := r37.st b24
            clear b24
            clear r35 ra rb
            obtain ⟨N1, hN1⟩ : ∃ N1, (lfE a 0 a.length).length = N1 := ⟨_, rfl⟩
            have hN1H := Lib.hid hN1
            clear hN1
            replace hr := hr.std
            replace oF := oF.inH.mono (Nat.zero_le _) (Nat.le_refl _)
            replace r12 := r12.std
            replace r28 := r28.std
            replace r37 := r37.inH.mono (Nat.zero_le _) (Nat.le_refl _)
            go_wp2_with fail
            go_loopw [39, 245] (fun s i wr => ∃ k : Nat, k ≤ K.length ∧ s = .int .i64 (bw N1 Q.length k : Int) ∧ i = .int .i64 (k : Int) ∧ Below w.heap.size w wr ∧ Pow wr ∧ RdEE wr 0 wr.heap.size A es ∧ OwnI wr 0 wr.heap.size (.slice B8 L.length d8) L ∧ Rd wr 0 wr.heap.size B12 C ∧ RdI wr 0 wr.heap.size B28 Q ∧ OwnI wr 0 wr.heap.size (.slice B37 K.length d37) K) (fun _ i _ => K.length - (intOf i).toNat)
            case atStart => exact ⟨0, Nat.zero_le _, by rw [bw_zero]; rfl, rfl, hB, hP, hr, oF, r12, r28, r37⟩
            case round =>
              as_aux_lemma =>
                clear hB hP hr oF r12 r28 r37
                obtain ⟨k, hk, rfl, rfl, hB, hP, hr, oF, r12, r28, r37⟩ := hrel
                by_cases hlt : k < K.length
                · obtain ⟨m, q, kd, i, hx, hcase⟩ := au_round (a := a) (b := b2) (k := k) (by rw [hKH.out.1]; exact hlt)
                  rw [hN1H.out, hKH.out.2] at hcase
                  have hx2 : K[k] = [m, q, kd, i] := by have h := hKH.out.1; subst h; exact hx
                  obtain ⟨g, A1, c1, hB37, x0, r1, hc1, -⟩ := r37.rowc hlt
                  subst hB37
                  rw [hx2] at x0 r1 hc1
                  have r1c := r1
                  obtain ⟨b1, o1, hA1, _, _, hc4⟩ := r1 (by simp)
                  subst hA1
                  have x2 := hc4 2 (by simp)
                  have x3 := hc4 3 (by simp)
                  simp at x0 x2 x3 hc1
                  have i0 : (0 : Int) ≤ (k : Int) := by omega
                  have i1 : (k : Int) < (K.length : Int) := by omega
                  clear hc4 r1 hx hx2
                  obtain ⟨bt, hbt⟩ : ∃ n, n = bw N1 Q.length k := ⟨_, rfl⟩
                  rw [← hbt] at hcase ⊢
                  clear hbt
                  rcases hcase with ⟨rfl, hn⟩ | ⟨hq5, rfl, hQk, hn⟩
                  · have hnH := Lib.hid hn
                    clear hn r1c
                    have hall := Lib.hid (And.intro hB (And.intro hP (And.intro hr (And.intro oF (And.intro r12 (And.intro r28 r37))))))
                    clear hB hP hr oF r12 r28 r37
                    go_wp2_with fail
                    go_roundw
                    case rel => exact ⟨k + 1, by omega, by rw [hnH.out], by go_num, hall.out.1, hall.out.2.1, hall.out.2.2.1, hall.out.2.2.2.1, hall.out.2.2.2.2.1, hall.out.2.2.2.2.2.1, hall.out.2.2.2.2.2.2⟩
                    case measure => simp [intOf]; omega
                  · obtain ⟨hbQ, hQe⟩ := List.getElem?_eq_some_iff.1 hQk
                    obtain ⟨bQ, oQ, hB28, _, _, hcq⟩ := r28 (by omega)
                    subst hB28
                    obtain ⟨A5, c5, y0, r5⟩ := hcq bt hbQ
                    rw [hQe] at y0 r5
                    simp at y0
                    clear hcq hQe hQk
                    have e5 : (kd != 5) = true := by simp [hq5]
                    have j0 : (0 : Int) ≤ (bt : Int) := by omega
                    have j1 : (bt : Int) < (Q.length : Int) := by omega
                    have d1 : decide ((Q.length : Int) ≤ (bt : Int)) = false := by simp; omega
                    have c3 : (3 : Int) ≤ (c1 : Int) := by omega
                    have c3b : 3 ≤ c1 := by omega
                    have hqq := Lib.hid (eqL_self [m, q, kd])
                    have r3 := r1c.three
                    skip
                    have hnH := Lib.hid hn
                    have hbl : Q.length ≤ 1048576 := by have := isz_len Q; omega
                    clear hn
                    go_wp2_with fail
                    go_quiet ((go_at_call 20; exact qInts_q [m, q, kd] [m, q, kd] (some ⟨b1, o1, none⟩) A5 3 3 c1 c5 _ _ rfl rfl r3 r5 (by simp) (by simp) true hqq.out))
                    replace hB := below_drewN hB nq
                    replace hP : Pow (wr.drewN nq) := hP
                    replace hr := hr.drewN nq
                    replace oF := oF.drewN nq
                    replace r12 := r12.drewN nq
                    replace r28 := r28.drewN nq
                    replace r37 := r37.drewN nq
                    clear x0 x2 x3 y0 r1c r3 r5
                    have hall := Lib.hid (And.intro hB (And.intro hP (And.intro hr (And.intro oF (And.intro r12 (And.intro r28 r37))))))
                    clear hB hP hr oF r12 r28 r37
                    go_wp2_with fail
                    go_roundw
                    case rel => exact ⟨k + 1, by omega, by rw [hnH.out]; go_num, by go_num, hall.out.1, hall.out.2.1, hall.out.2.2.1, hall.out.2.2.2.1, hall.out.2.2.2.2.1, hall.out.2.2.2.2.2.1, hall.out.2.2.2.2.2.2⟩
                    case measure => simp [intOf]; omega
                · obtain rfl : k = K.length := by omega
                  have hlt2 : ¬ ((K.length : Int) < (K.length : Int)) := by omega
                  have hbe : bw N1 Q.length K.length = Q.length := by have h1 := hN1H.out; have h2 := hKH.out.1; have h3 := hKH.out.2; subst h1 h2 h3; exact bw_end
                  rw [hbe]
                  clear hbe r28 r37
                  have hall := Lib.hid (And.intro hB (And.intro hP (And.intro hr (And.intro oF r12))))
                  clear hB hP hr oF r12
                  go_wp2_with fail
                  go_meet
                  case rel => exact ⟨hall.out.1, hall.out.2.1, hall.out.2.2.1, hall.out.2.2.2.1, hall.out.2.2.2.2⟩
      case rest =>
        clear hB hP hr oF r12 ra rb r28
        obtain ⟨hB, hP, hr, oF, r12⟩ := hcut
        obtain ⟨wb, rfl⟩ : ∃ u, u = wc := ⟨_, rfl⟩
        cases b with
        | false =>
          have hBH := Lib.hid hB
          clear hB hP hr oF r12
          go_wp2_with fail
          go_ret
          exact ⟨rfl, hBH.out⟩
        | true =>
          have hlg := Lib.hid hLb.out.2
          have hL := Lib.hid ((llL_yes hlg.out).symm.trans hLb.out.1)
          have hLn : L.length ≤ 720 := hll.out rfl
          have hCl := Lib.hid ((fcL_yes hlg.out).symm.trans hCb.out.1)
          go_wp2_with (at_make; refine wp_make_ints rfl _ _ rfl es.length rfl rfl (by omega) ?_; intro wm hown1 hb1 hs1)
          obtain ⟨G, hG⟩ : ∃ G, G = wb.heap.size := ⟨_, rfl⟩
          skip
          replace hr := hr.std
          replace oF := oF.inH.mono (Nat.zero_le _) (Nat.le_refl _)
          replace r12 := r12.std
          have hall0 := Lib.hid (And.intro (hP.st hb1) (And.intro (hr.st hb1) (And.intro (oF.st hb1) (And.intro (r12.st hb1) (hB.trans (hb1.mono hB.size))))))
          have hPl := hP.lt
          have hgw : wb.heap.size + 1 ≤ wm.heap.size := by omega
          have hwW := hB.size
          have ho1 : Hid (Own wm wb.heap.size (wb.heap.size + 1) (.slice (some ⟨wb.heap.size, 0, none⟩) es.length es.length) (fcTo L es.length 0)) := Lib.hid (by rw [fcTo_zero]; exact hown1.mono (Nat.le_refl _) (by omega))
          have hs1H := Lib.hid hs1
          clear hown1 hb1 hs1 hG hB hP hr oF r12
          go_wp2_with fail
          go_loopw [287] (fun i wr => ∃ k : Nat, k ≤ L.length ∧ i = .int .i64 (k : Int) ∧ Own wr wb.heap.size (wb.heap.size + 1) (.slice (some ⟨wb.heap.size, 0, none⟩) es.length es.length) (fcTo L es.length k) ∧ Fr wb.heap.size (wb.heap.size + 1) wm wr) (fun i _ => L.length - (intOf i).toNat)
          case atStart => exact ⟨0, Nat.zero_le _, rfl, ho1.out, Fr.refl _ _ _⟩
          case round =>
            as_aux_lemma =>
              clear ho1
              obtain ⟨k, hk, rfl, hown, hfr⟩ := hrel
              have hsr := hfr.size
              have hB : Below w.heap.size w wr := hall0.out.2.2.2.2.trans (hfr.below hwW (by omega))
              have hP : Pow wr := hall0.out.1.below (hfr.below (Nat.le_refl _) (by omega)) hPl
              have hr := hall0.out.2.1.fr hfr (.inl (Nat.le_refl _))
              have oF := hall0.out.2.2.1.fr hfr (.inl (Nat.le_refl _))
              have r12 := hall0.out.2.2.2.1.fr hfr (.inl (Nat.le_refl _))
              by_cases hlt : k < L.length
              · obtain ⟨m0, p0, q0, i0, heq, hi0, hft⟩ := lfL_kind hlg.out (x := L[k]) (by rw [hL.out]; exact List.getElem_mem hlt)
                obtain ⟨g, A1, c1, hB8, x0, r1, hc1, -⟩ := oF.rowc hlt
                subst hB8
                have hst0 := fcTo_succ (n := es.length) hlt hi0 (by rw [heq]; rfl) (by rw [fcTo_len]; exact hi0)
                rw [heq] at x0 r1 hc1 hft
                have r1c := r1
                obtain ⟨b4, off4, hA1, _, _, hc4⟩ := r1 (by simp)
                subst hA1
                have x3 := hc4 3 (by simp)
                simp at x3 x0 hc1
                have hci : i0 < (fcTo L es.length k).length := by rw [fcTo_len]; exact hi0
                have hst := Lib.hid hst0
                have hbd := fcTo_bd L es.length k i0 hci
                obtain ⟨g', c', he, _, _, g3, hcell, hfz⟩ := hown.at_ (by rw [fcTo_len]; omega)
                injection he with e1 e2 e3
                injection e1 with e1
                injection e1 with e1 e4
                subst e1
                have hf := hfz i0
                have hcd := hcell i0 hci
                generalize hcv : (fcTo L es.length k)[i0] = cv at *
                have i1 : (k : Int) < (L.length : Int) := by omega
                have i2 : (0 : Int) ≤ (k : Int) := by omega
                have k0 : (0 : Int) ≤ (i0 : Int) := by omega
                have k1 : (i0 : Int) < (es.length : Int) := by omega
                have k1b : ¬ ((i0 : Int) < 0) := by omega
                have k1c : ¬ ((es.length : Int) ≤ (i0 : Int)) := by omega
                have v1 : wrap64 (cv + 1) = cv + 1 := IntWalk.wrap64_in _ (by omega)
                obtain ⟨wz, hwz⟩ : ∃ u, u = wr.setCell ⟨wb.heap.size, i0, none⟩ (.int .i64 (cv + 1)) := ⟨_, rfl⟩
                have hst2 : Own wz wb.heap.size (wb.heap.size + 1) (.slice (some ⟨wb.heap.size, 0, none⟩) es.length es.length) ((fcTo L es.length k).set i0 (cv + 1)) := by rw [hwz]; exact hown.stored (j := i0) (cv + 1)
                have hfr2 : Fr wb.heap.size (wb.heap.size + 1) wm wz := by rw [hwz]; exact hfr.setCell (p := ⟨wb.heap.size, i0, none⟩) ⟨Nat.le_refl _, Nat.lt_succ_self _⟩ (.int .i64 (cv + 1))
                have hP2 : Pow wz := hall0.out.1.below (hfr2.below (Nat.le_refl _) (by omega)) hPl
                have r2c : Rd wz 0 wb.heap.size (some ⟨b4, off4, none⟩) [m0, p0, q0, (i0 : Int)] := by rw [hwz]; exact r1c.setCell (Nat.le_refl _) _
                have hszz : wz.heap.size = wr.heap.size := by rw [hwz, size_setCell]
                have hszH := Lib.hid hszz
                have hstH := Lib.hid (show (fcTo L es.length k).set i0 (cv + 1) = fcTo L es.length (k + 1) from hst.out)
                rw [hstH.out] at hst2
                have hall2 := Lib.hid (And.intro hst2 hfr2)
                clear hszz hst2 hfr2 hcell hfz e2 e3 e4 hown hfr hc4 heq hcv hci r1 r1c hst hst0 hP hr oF r12 hB
                skip
                obtain ⟨T2, hT2⟩ : ∃ T2, str (ftL [m0, p0, q0, (i0 : Int)]) = T2 := ⟨_, rfl⟩
                have hT4 : ¬ T2 = ByteArray.empty := by rw [← hT2]; exact str_ne (ftL_ne hft)
                have hT1 : decide (T2 = ByteArray.empty) = false := by simp [hT4]
                have hT2b : T2.toList.isEmpty = false := by rw [← Go.decide_eq_emptyBytes]; exact hT1
                have hTx := Lib.hid (And.intro hT2 hft)
                clear hT2 hft hstH
                go_wp2_with fail
                rw [← hwz]
                (with_reducible refine (iFaultText_l [m0, p0, q0, (i0 : Int)] (some ⟨b4, off4, none⟩) 4 c1 _ rfl r2c (by simp) (by simpa using hc1) hP2 T2 true hTx.out).mono ?_)
                rintro ee ww ⟨rfl, hb9⟩
                have hfin := Lib.hid (And.intro ((hall2.out.1).st hb9) (hall2.out.2.then_below hb9 (by have := hszH.out; omega)))
                clear hb9 hwz r2c hP2 x0 x3 hf hcd hall2
                go_wp2_with fail
                go_roundw
                case rel => exact ⟨k + 1, by omega, by go_num, hfin.out.1, hfin.out.2⟩
                case measure => simp [intOf]; omega
              · obtain rfl : k = L.length := by omega
                have hlt2 : ¬ ((L.length : Int) < (L.length : Int)) := by omega
                obtain ⟨wx, rfl⟩ : ∃ u, u = wr := ⟨_, rfl⟩
                have hCe : fcTo L es.length L.length = C := by have := hCl.out; rw [hL.out] at this; exact this
                rw [hCe] at hown
                have rs := hown.rd'
                have hCn : es.length = C.length := by rw [← hCe, fcTo_len]
                have hCnH := Lib.hid hCn
                have hmx := mx_pos hlg.out
                rw [hSM.out.2.2, hL.out] at hmx
                have hit : u = decide (L.length = 0) := by have h := hub.out.1; rw [← h]; unfold itB; rw [hlg.out, hL.out, Bool.true_and]
                have hmxH := Lib.hid hmx
                have hitH := Lib.hid hit
                clear hCe hCn hmx hit hown hfr hlt hk
                go_wp2_with fail
                (with_reducible refine (qInts_t C (some ⟨wb.heap.size, 0, none⟩) B12 es.length C.length es.length d12 _ hCnH.out rfl rs r12 nC).mono ?_)
                rintro e w25 ⟨rfl, b25⟩
                have s25 : wx.heap.size ≤ w25.heap.size := b25.size
                replace hP := hP.st b25
                replace hr := hr.st b25
                replace oF := oF.st b25
                replace r12 := r12.st b25
                replace hB := hB.trans (Below.mono b25 hB.size)
                replace rs := rs.st b25
                clear b25
                clear rs oF
                obtain ⟨nF, hnF⟩ : ∃ n, n = L.length := ⟨_, rfl⟩
                have hnFH := Lib.hid hnF
                have hmx2 := hmxH.out
                have hit2 := hitH.out
                rw [← hnF] at hmx2 hit2 ⊢
                have hmx2H := Lib.hid hmx2
                have hit2H := Lib.hid hit2
                clear hnF hmx2 hit2
                replace hr := hr.std
                replace r12 := r12.std
                clear hP
                by_cases h0 : nF = 0
                · have hu : u = true := by rw [hit2H.out]; simpa using h0
                  have ht : t = false := by rw [hmx2H.out]; simp [h0]
                  subst hu ht
                  have h0H := Lib.hid (show L.length = 0 from hnFH.out.symm.trans h0)
                  clear hnFH hmx2H hit2H
                  subst h0
                  go_wp2_with fail
                  go_loopw [348] (fun i wr => ∃ k : Nat, k ≤ C.length ∧ i = .int .i64 (k : Int) ∧ Below w.heap.size w wr ∧ RdEE wr 0 wr.heap.size A es ∧ Rd wr 0 wr.heap.size B12 C) (fun i _ => C.length - (intOf i).toNat)
                  case atStart => exact ⟨0, Nat.zero_le _, rfl, hB, hr, r12⟩
                  case round =>
                    as_aux_lemma =>
                      clear hB hr r12
                      obtain ⟨k, hk, rfl, hB, hr, r12⟩ := hrel
                      by_cases hlt : k < C.length
                      · obtain ⟨a1, a2⟩ := au_most hlg.out (i := k) (by rw [hCb.out.1]; exact hlt)
                        obtain ⟨bb, off, rfl, _, _, hcell⟩ := r12 (by omega)
                        have x0 := hcell k hlt
                        have hck : (fcL es)[k]'(by rw [hCb.out.1]; exact hlt) = C[k] := by have h := hCb.out.1; subst h; rfl
                        rw [hck] at a1 a2
                        rw [hSM.out.2.1] at a1 a2
                        rw [hSM.out.1, hSM.out.2.2] at a2
                        obtain ⟨ck, hckk⟩ : ∃ u, u = C[k] := ⟨_, rfl⟩
                        rw [← hckk] at x0 a1 a2
                        clear hck hckk hcell
                        have i0 : (0 : Int) ≤ (k : Int) := by omega
                        have i1 : (k : Int) < (C.length : Int) := by omega
                        have a3 : ¬ (M < ck) := by omega
                        clear a2
                        have hall := Lib.hid (And.intro hB (And.intro hr r12))
                        clear hB hr r12
                        by_cases hm : ck = M
                        · have e3 : (ck == M) = true := by simp [hm]
                          have hmH := Lib.hid hm
                          clear hm
                          go_wp2_with fail
                          go_roundw
                          case rel => exact ⟨k + 1, by omega, by go_num, hall.out.1, hall.out.2.1, hall.out.2.2⟩
                          case measure => simp [intOf]; omega
                        · have e3 : (ck == M) = false := by simp [hm]
                          have hmH := Lib.hid hm
                          clear hm
                          go_wp2_with fail
                          go_roundw
                          case rel => exact ⟨k + 1, by omega, by go_num, hall.out.1, hall.out.2.1, hall.out.2.2⟩
                          case measure => simp [intOf]; omega
                      · have hlt2 : ¬ ((k : Int) < (C.length : Int)) := by omega
                        obtain ⟨wy, rfl⟩ : ∃ u, u = wr := ⟨_, rfl⟩
                        clear r12 hlt hk
                        have hes0 := tl_pos hlg.out
                        have hL0 : (lfL es).length = 0 := by rw [hL.out]; exact h0H.out
                        have hL0H := Lib.hid hL0
                        clear hL0
                        go_wp2_with fail
                        go_loopw [374] (fun i wr => ∃ k : Nat, k ≤ es.length ∧ i = .int .i64 (k : Int) ∧ Below w.heap.size w wr ∧ RdEE wr 0 wr.heap.size A es) (fun i _ => es.length - (intOf i).toNat)
                        case atStart => exact ⟨0, Nat.zero_le _, rfl, hB, hr⟩
                        case round =>
                          as_aux_lemma =>
                            clear hB hr
                            obtain ⟨i, hi, rfl, hB, hr⟩ := hrel
                            obtain ⟨wo, hwo⟩ : ∃ wo, wo = wr := ⟨_, rfl⟩
                            subst hwo
                            by_cases hlt : i < es.length
                            · obtain ⟨hlen, hent⟩ := tl_fact hlg.out hL0H.out hlt
                              have hrX := hr
                              obtain ⟨bA, oA, rfl, _, _, hcA⟩ := hr hes0
                              obtain ⟨A3, c3, x0, rk, hcap⟩ := hcA i hlt
                              obtain ⟨A0x, c0x, x9, r0, hcap0⟩ := hcA 0 hes0
                              have hek := essz_at es i hlt
                              have hel := esz_len es[i]
                              have hek0 := essz_at es 0 hes0
                              have hel0 := esz_len (es[0]'hes0)
                              rw [Nat.add_zero] at x9
                              have i0 : (0 : Int) ≤ (i : Int) := by omega
                              have i1 : (i : Int) < (es.length : Int) := by omega
                              have i2 : (0 : Int) < (es.length : Int) := by omega
                              have hr2 := hrX
                              clear hcA hrX hr
                              have hr := hr2
                              clear hr2
                              obtain ⟨lk, hlk⟩ : ∃ u, u = es[i] := ⟨_, rfl⟩
                              obtain ⟨l0, hl0⟩ : ∃ u, u = (es[0]'hes0) := ⟨_, rfl⟩
                              have hlenH := Lib.hid hlen
                              rw [← hlk] at x0 rk hcap hek hel
                              rw [← hl0] at x9 r0 hcap0 hek0 hel0
                              have hll2 : lk.length = l0.length := by rw [hlk, hl0]; exact hlen
                              have hent2 : ∀ k (hk : k < lk.length), ∃ (q : Nat) (hq : q < l0.length), (feB l0 lk[k].msg lk[k].part = true ∧ feV l0 lk[k].msg lk[k].part = (q : Int)) ∧ lk[k].shown = l0[q].seen ∧ l0[q].time ≤ lk[k].time := by subst hlk hl0; exact hent
                              have hentH := Lib.hid hent2
                              obtain ⟨nk, hnk⟩ : ∃ n, n = lk.length := ⟨_, rfl⟩
                              have hnkH := Lib.hid hnk
                              have hn0H := Lib.hid (hnk.trans hll2)
                              rw [← hnk] at x0 hcap hel
                              rw [← hll2, ← hnk] at x9
                              have hnk6 : nk ≤ 1048576 := by omega
                              have hl0H := Lib.hid hl0
                              clear hlen hent hent2 hll2 hnk hlk hl0 hlenH
                              go_wp2_with fail
                              go_loopw [388] (fun j wr => ∃ k : Nat, k ≤ nk ∧ j = .int .i64 (k : Int) ∧ Below w.heap.size w wr ∧ RdEE wr 0 wr.heap.size (some ⟨bA, oA, none⟩) es ∧ RdE wr 0 wr.heap.size A3 lk) (fun j _ => nk - (intOf j).toNat)
                              case atStart => exact ⟨0, Nat.zero_le _, rfl, hB, hr, rk.std⟩
                              case round =>
                                as_aux_lemma =>
                                  clear hB hr rk r0 x9 x0
                                  obtain ⟨k, hk, rfl, hB, hr, rk⟩ := hrel
                                  by_cases hkt : k < nk
                                  · have hkl : k < lk.length := by have := hnkH.out; omega
                                    obtain ⟨q, hq, hfe, hsh, htm⟩ := hentH.out k hkl
                                    have hfeH := Lib.hid hfe
                                    obtain ⟨bK, oK, hA3, _, _, hcK⟩ := rk (by omega)
                                    obtain ⟨E1, f1, E2, f2, y0, y1, y2, y3, y4, -, rsh⟩ := hcK k hkl
                                    subst hA3
                                    clear hcK
                                    obtain ⟨ek, hek2⟩ : ∃ u, u = lk[k] := ⟨_, rfl⟩
                                    obtain ⟨eq, heq2⟩ : ∃ u, u = l0[q] := ⟨_, rfl⟩
                                    have hqH := Lib.hid (show l0[q] = eq from heq2.symm)
                                    have hfe2 : feB l0 ek.msg ek.part = true ∧ feV l0 ek.msg ek.part = (q : Int) := by rw [hek2]; exact hfe
                                    have hsh2 : ek.shown = eq.seen := by rw [hek2, heq2]; exact hsh
                                    have htm2 : eq.time ≤ ek.time := by rw [hek2, heq2]; exact htm
                                    have hsl : ek.shown.length ≤ 1048576 := by have := esz_at lk k hkl; rw [← hek2] at this; omega
                                    rw [← hek2] at y0 y1 y2 y3 y4 rsh
                                    have hfe2H := Lib.hid hfe2
                                    have hsh2H := Lib.hid hsh2
                                    clear hfe hsh htm hfeH hfe2 hsh2 hek2 heq2
                                    have j0 : (0 : Int) ≤ (k : Int) := by omega
                                    have j1 : (k : Int) < (nk : Int) := by omega
                                    have hqn : q < nk := by have := hn0H.out; omega
                                    have q0 : (0 : Int) ≤ (q : Int) := by omega
                                    have q1 : (q : Int) < (nk : Int) := by omega
                                    go_upto_region 67 with fail
                                    obtain ⟨w26, hw26⟩ : ∃ u, u = wr.alloc (.cells #[.int .i64 ek.time, .int .i64 ek.msg, .int .i64 ek.part, .slice E1 ek.seen.length f1, .slice E2 ek.shown.length f2] 46) := ⟨_, rfl⟩
                                    rw [← hw26]
                                    have e26 : w26.heap.size = wr.heap.size + 1 := by rw [hw26]; simp
                                    have s26 : wr.heap.size + 1 ≤ w26.heap.size := by omega
                                    have b26 : Below wr.heap.size wr w26 := by rw [hw26]; exact (Below.refl _ _).alloc (Nat.le_refl _) _
                                    have bE : Bk w26 (wr.heap.size) 46 #[.int .i64 ek.time, .int .i64 ek.msg, .int .i64 ek.part, .slice E1 ek.seen.length f1, .slice E2 ek.shown.length f2] := by rw [hw26]; exact Bk.new _ _ _
                                    replace hB := hB.trans (Below.mono b26 hB.size)
                                    replace hr := hr.st b26
                                    replace rk := rk.st b26
                                    replace rsh := rsh.st b26
                                    replace e26 := Lib.hid e26
                                    clear b26 hw26
                                    clear y0 y1 y2 y3 y4 j0 j1
                                    obtain ⟨bAp, oAp, hAp, _, _, hcp⟩ := hr hes0
                                    injection hAp with hAp
                                    injection hAp with hAp1 hAp2
                                    subst hAp1 hAp2
                                    obtain ⟨A0p, c0p, x9p, r0p, -⟩ := hcp 0 hes0
                                    rw [Nat.add_zero, ← hl0H.out, hn0H.out.symm] at x9p
                                    rw [← hl0H.out] at r0p
                                    clear hcp
                                    have s1 : w26.drew.cell? ⟨wr.heap.size, 1, none⟩ = some (.int .i64 ek.msg) := bE.cell 1
                                    have s2 : w26.drew.cell? ⟨wr.heap.size, 2, none⟩ = some (.int .i64 ek.part) := bE.cell 2
                                    have s3 : w26.drew.cell? ⟨bA, oA, none⟩ = some (.slice A0p nk c0p) := x9p
                                    have s4 := r0p.drew
                                    have el := bE.lt
                                    clear x9p r0p
                                    go_wp2_with fail
                                    go_region_held3 (fun w' => w'.cell? ⟨wr.heap.size, 1, none⟩ = some (.int .i64 ek.msg) ∧ w'.cell? ⟨wr.heap.size, 2, none⟩ = some (.int .i64 ek.part) ∧ w'.cell? ⟨bA, oA, none⟩ = some (.slice A0p nk c0p)) (((try go_split_ands); (try dsimp only); (repeat' apply And.intro) <;> with_reducible assumption))
                                      (first | (go_at_call 22; ((with_reducible refine (sFindEntry_l l0 A0p nk c0p ek.msg ek.part _ hn0H.out s4 (by omega) (q : Int) true hfe2H.out).mono ?_); rintro e wa ⟨rfl, ba⟩); (have t1 := cell_later ba s1); (have t2 := cell_later ba s2); (have t3 := cell_later ba s3)))
                                    all_goals
                                      have sa := ba.size
                                      replace hB := hB.drew.trans (ba.mono hB.size)
                                      replace hr := hr.drew.st ba
                                      replace rk := rk.drew.st ba
                                      replace rsh := rsh.drew.st ba
                                      replace bE := bE.drew.st ba
                                      clear ba s1 s2 s3 s4 t1 t2 el
                                      obtain ⟨bAs, oAs, hAs, _, _, hcs⟩ := hr hes0
                                      injection hAs with hAs
                                      injection hAs with hAs1 hAs2
                                      subst hAs1 hAs2
                                      obtain ⟨A0s, c0s, x9s, r0s, -⟩ := hcs 0 hes0
                                      rw [Nat.add_zero, ← hl0H.out, hn0H.out.symm] at x9s
                                      rw [← hl0H.out] at r0s
                                      clear hcs
                                      have hAA := x9s.symm.trans t3
                                      clear t3
                                      injection hAA with hAA
                                      injection hAA with hAA1 hAA2 hAA3
                                      subst hAA1 hAA3
                                      obtain ⟨b0, o0, hA0, _, _, hc0⟩ := r0s (by omega)
                                      obtain ⟨E3, f3, E4, f4, z0, -, -, z3, -, rse, -⟩ := hc0 q hq
                                      subst hA0
                                      rw [hqH.out] at z0 z3 rse
                                      clear hc0 r0s
                                      have hsl2 : eq.seen.length ≤ 1048576 := by rw [← hsh2H.out]; exact hsl
                                      have heqq := Lib.hid (show eqL ek.shown eq.seen = true by rw [hsh2H.out]; exact eqL_self _)
                                      have e0 := bE.cell 0
                                      have e4 := bE.cell 4
                                      simp at e0 e4
                                      have el := bE.lt
                                      have a1 : ¬ (ek.time < eq.time) := by omega
                                      have a1b : decide (ek.time < eq.time) = false := by simp; omega
                                      replace hr := hr.std
                                      replace rk := rk.std
                                      by_cases hi0 : i = 0
                                      · have d0 : decide ((0 : Int) < (i : Int)) = false := by simp; omega
                                        have d1 : decide (0 < i) = false := by simp; omega
                                        clear hi0
                                        go_wp2_with fail
                                        skip
                                        go_quiet ((go_at_call 20; exact qInts_q ek.shown eq.seen E2 E3 ek.shown.length eq.seen.length f2 f3 _ _ rfl rfl rsh rse hsl hsl2 true heqq.out))
                                        have hall := Lib.hid (And.intro (below_drewN hB nq) (And.intro (hr.drewN nq) (rk.drewN nq)))
                                        clear hB hr rk bE rsh rse z0 z3 e0 e4 el x9s d0 d1
                                        go_wp2_with fail
                                        go_roundw
                                        case rel => exact ⟨k + 1, by omega, by go_num, hall.out.1, hall.out.2.1, hall.out.2.2⟩
                                        case measure => simp [intOf]; omega
                                      · have d0 : (0 : Int) < (i : Int) := by omega
                                        have d1 : 0 < i := by omega
                                        clear hi0
                                        go_wp2_with fail
                                        skip
                                        go_quiet ((go_at_call 20; exact qInts_q ek.shown eq.seen E2 E3 ek.shown.length eq.seen.length f2 f3 _ _ rfl rfl rsh rse hsl hsl2 true heqq.out))
                                        have hall := Lib.hid (And.intro (below_drewN hB nq) (And.intro (hr.drewN nq) (rk.drewN nq)))
                                        clear hB hr rk bE rsh rse z0 z3 e0 e4 el x9s d0 d1
                                        go_wp2_with fail
                                        go_roundw
                                        case rel => exact ⟨k + 1, by omega, by go_num, hall.out.1, hall.out.2.1, hall.out.2.2⟩
                                        case measure => simp [intOf]; omega
                                  · have hkt2 : ¬ ((k : Int) < (nk : Int)) := by omega
                                    have hall := Lib.hid (And.intro hB hr)
                                    clear hB hr rk
                                    go_wp2_with fail
                                    go_roundw
                                    case rel => exact ⟨i + 1, by omega, by go_num, hall.out.1, hall.out.2⟩
                                    case measure => simp [intOf]; omega
                            · have hlt2 : ¬ ((i : Int) < (es.length : Int)) := by omega
                              have hBH := Lib.hid hB
                              clear hB hr
                              go_wp2_with fail
                              go_ret
                              exact ⟨rfl, hBH.out⟩
                · have hu : u = false := by rw [hit2H.out]; simpa using h0
                  have ht : t = true := by rw [hmx2H.out]; simp; omega
                  subst hu ht
                  have e1 : ((nF : Int) == 0) = false := by simpa using h0
                  have e2 : (0 : Int) < (nF : Int) := by omega
                  have e3 : (!decide (0 < nF)) = false := by simp; omega
                  have e4 : 0 < nF := by omega
                  go_wp2_with fail
                  go_loopw [348] (fun i wr => ∃ k : Nat, k ≤ C.length ∧ i = .int .i64 (k : Int) ∧ Below w.heap.size w wr ∧ RdEE wr 0 wr.heap.size A es ∧ Rd wr 0 wr.heap.size B12 C) (fun i _ => C.length - (intOf i).toNat)
                  case atStart => exact ⟨0, Nat.zero_le _, rfl, hB, hr, r12⟩
                  case round =>
                    as_aux_lemma =>
                      clear hB hr r12
                      obtain ⟨k, hk, rfl, hB, hr, r12⟩ := hrel
                      by_cases hlt : k < C.length
                      · obtain ⟨a1, a2⟩ := au_most hlg.out (i := k) (by rw [hCb.out.1]; exact hlt)
                        obtain ⟨bb, off, rfl, _, _, hcell⟩ := r12 (by omega)
                        have x0 := hcell k hlt
                        have hck : (fcL es)[k]'(by rw [hCb.out.1]; exact hlt) = C[k] := by have h := hCb.out.1; subst h; rfl
                        rw [hck] at a1 a2
                        rw [hSM.out.2.1] at a1 a2
                        rw [hSM.out.1, hSM.out.2.2] at a2
                        obtain ⟨ck, hckk⟩ : ∃ u, u = C[k] := ⟨_, rfl⟩
                        rw [← hckk] at x0 a1 a2
                        clear hck hckk hcell
                        have i0 : (0 : Int) ≤ (k : Int) := by omega
                        have i1 : (k : Int) < (C.length : Int) := by omega
                        have a3 : ¬ (M < ck) := by omega
                        have hall := Lib.hid (And.intro hB (And.intro hr r12))
                        clear hB hr r12
                        by_cases hm : ck = M
                        · have e3 : (ck == M) = true := by simp [hm]
                          have a4 : ¬ ((k : Int) < S) := a2 hm rfl
                          have hmH := Lib.hid hm
                          clear hm a2
                          go_wp2_with fail
                          go_roundw
                          case rel => exact ⟨k + 1, by omega, by go_num, hall.out.1, hall.out.2.1, hall.out.2.2⟩
                          case measure => simp [intOf]; omega
                        · have e3 : (ck == M) = false := by simp [hm]
                          skip
                          have hmH := Lib.hid hm
                          clear hm a2
                          go_wp2_with fail
                          go_roundw
                          case rel => exact ⟨k + 1, by omega, by go_num, hall.out.1, hall.out.2.1, hall.out.2.2⟩
                          case measure => simp [intOf]; omega
                      · have hlt2 : ¬ ((k : Int) < (C.length : Int)) := by omega
                        obtain ⟨wy, rfl⟩ : ∃ u, u = wr := ⟨_, rfl⟩
                        clear r12 hlt hk
                        have hBH := Lib.hid hB
                        clear hB hr
                        go_wp2_with fail
                        go_ret
                        exact ⟨rfl, hBH.out⟩
end Go.Proofs.YtjhbffndiaggmaaDoor
