/-
  The walk through FnSecretSignals. The conditions are bounds on lengths, and the library's variables.
-/
import Derived.Test.YtjhbffndiaggmaaGreatDoorBSS39
import Derived.Test.YtjhbffndiaggmaaGreatDoorBSS38
import Derived.Test.YtjhbffndiaggmaaGreatDoorBSS42
import Derived.Test.YtjhbffndiaggmaaGreatDoorZSSRse
import Derived.Deep.DeepCutAuto
import Derived.Deep.CutBlock
import Derived.Deep.QuietTactic
import Derived.BigQuiet
namespace Go.Proofs.YtjhbffndiaggmaaGreatDoor
open Go.RowKit Go.ChangeShapes Go.WideShapes
set_option linter.unusedVariables false
set_option linter.unusedSimpArgs false

def nnB (n : Int) : Bool := inB n 0 60
def nnV (n : Int) : Int := if nnB n then ndP n else 0
theorem iHideSignals_k (k1 p1 : Int) (us : List Int) (A1 : Option Addr) (c1 : Nat) (page : Int) (ss : List Int) (A : Option Addr) (c : Nat) {l h l' h' : Nat} (w : World) (hr : Rd w l h A1 us) (hs : Rd w l' h' A ss) (hl : us.length ≤ 1048576) (hl' : ss.length ≤ 1048576) (O : List Int) (v : Bool) (hE : hsL 1 k1 p1 us page ss = O ∧ hsB k1 p1 us page ss = v) :
    Calls Tryz.prog 30 #[.agg #[.int .i64 k1, .int .i64 p1, .slice A1 us.length c1], .int .i64 page, .slice A ss.length c] w fun e w' => ∃ A c, e = .returned (.tuple #[.slice A O.length c, .bool v]) ∧ Rd w' 0 w'.heap.size A O ∧ O.length ≤ 1048576 ∧ Below w.heap.size w w' := by
  obtain ⟨rfl, rfl⟩ := hE
  refine (iHideSignals_any k1 p1 us A1 c1 page ss A c w hr hs hl hl').mono ?_
  rintro e w' ⟨A, c, he, q, n, hb⟩
  exact ⟨A, c, he, q.rd'.std, n, hb⟩
theorem iShowSignals_k (k1 p1 : Int) (us : List Int) (A1 : Option Addr) (c1 : Nat) (page : Int) (ss : List Int) (A : Option Addr) (c : Nat) {l h l' h' : Nat} (w : World) (hr : Rd w l h A1 us) (hs : Rd w l' h' A ss) (hl : us.length ≤ 1048576) (hl' : ss.length ≤ 1048576) (O : List Int) (v : Bool) (hE : hsL (-1) k1 p1 us page ss = O ∧ hsB k1 p1 us page ss = v) :
    Calls Tryz.prog 33 #[.agg #[.int .i64 k1, .int .i64 p1, .slice A1 us.length c1], .int .i64 page, .slice A ss.length c] w fun e w' => ∃ A c, e = .returned (.tuple #[.slice A O.length c, .bool v]) ∧ Rd w' 0 w'.heap.size A O ∧ O.length ≤ 1048576 ∧ Below w.heap.size w w' := by
  obtain ⟨rfl, rfl⟩ := hE
  refine (iShowSignals_any k1 p1 us A1 c1 page ss A c w hr hs hl hl').mono ?_
  rintro e w' ⟨A, c, he, q, n, hb⟩
  exact ⟨A, c, he, q.rd'.std, n, hb⟩
theorem iSecretText_k (y : List Int) (A2 : Option Addr) (c2 : Nat) (z : List Int) (B2 : Option Addr) (d2 : Nat) {l h l' h' : Nat} (w : World) (hr : Rd w l h A2 y) (hs : Rd w l' h' B2 z) (hl : y.length ≤ 1048576) (hl' : z.length ≤ 1048576) (hP : Pow w) (T : ByteArray) (v : Bool) (hE : str (stL y z) = T ∧ scB y z = v) :
    Calls Tryz.prog 39 #[.agg #[.slice A2 y.length c2, .slice B2 z.length d2]] w fun e w' => e = .returned (.tuple #[.string T, .bool v]) ∧ Below w.heap.size w w' := by
  obtain ⟨rfl, rfl⟩ := hE
  exact iSecretText_any y A2 c2 z B2 d2 w hr hs hl hl' hP
theorem iParseSecret_k (t : ByteArray) (w : World) (hl : t.size ≤ 1048576) (hS : Sen w) (P L : List Int) (v : Bool) (hE : psP t.data.toList = P ∧ psL t.data.toList = L ∧ psB t.data.toList = v) :
    Calls Tryz.prog 42 #[.string t] w fun e w' => ∃ A c B d, e = .returned (.tuple #[.agg #[.slice A P.length c, .slice B L.length d], .bool v]) ∧ Rd w' 0 w'.heap.size A P ∧ Rd w' 0 w'.heap.size B L ∧ (P.length ≤ 1048576 ∧ L.length ≤ 1048576) ∧ Below w.heap.size w w' := by
  obtain ⟨rfl, rfl, rfl⟩ := hE
  have h := iParseSecret_l t.data.toList w (by rw [Array.length_toList]; exact hl) hS
  rw [str_of] at h
  refine h.mono ?_
  rintro e w' ⟨A, c, B, d, l1, r1, l2, r2, he, q1, q2, -, n1, n2, hb⟩
  exact ⟨A, c, B, d, he, q1.rd'.std, q2.rd'.std, ⟨n1, n2⟩, hb⟩
theorem iChangedPlaces_k (y1 : List Int) (A1 : Option Addr) (c1 : Nat) (z1 : List Int) (B1 : Option Addr) (d1 : Nat) (y2 : List Int) (A2 : Option Addr) (c2 : Nat) (z2 : List Int) (B2 : Option Addr) (d2 : Nat) {l1 h1 l2 h2 l3 h3 l4 h4 : Nat} (w : World)
    (ry1 : Rd w l1 h1 A1 y1) (rz1 : Rd w l2 h2 B1 z1) (ry2 : Rd w l3 h3 A2 y2) (rz2 : Rd w l4 h4 B2 z2) (hy1 : y1.length ≤ 1048576) (hz1 : z1.length ≤ 1048576) (hy2 : y2.length ≤ 1048576) (hz2 : z2.length ≤ 1048576) (D : List Int) (v : Bool) (hE : cpL y1 z1 y2 z2 = D ∧ cpB y1 z1 y2 z2 = v) :
    Calls Tryz.prog 36 #[.agg #[.slice A1 y1.length c1, .slice B1 z1.length d1], .agg #[.slice A2 y2.length c2, .slice B2 z2.length d2]] w fun e w' => ∃ A c, e = .returned (.tuple #[.slice A D.length c, .bool v]) ∧ Rd w' 0 w'.heap.size A D ∧ D.length ≤ 1048576 ∧ Below w.heap.size w w' := by
  obtain ⟨rfl, rfl⟩ := hE
  refine (iChangedPlaces_any y1 A1 c1 z1 B1 d1 y2 A2 c2 z2 B2 d2 w ry1 rz1 ry2 rz2 hy1 hz1 hy2 hz2).mono ?_
  rintro e w' ⟨A, c, he, q, n, hb⟩
  exact ⟨A, c, he, q.rd'.std, n, hb⟩
theorem iNeededPages_k (n : Int) (w : World) (h0 : -1 ≤ n) (h1 : n ≤ 61) (V : Int) (v : Bool) (hE : nnV n = V ∧ nnB n = v) :
    Calls Tryz.prog 45 #[.int .i64 n] w fun e w' => e = .returned (.tuple #[.int .i64 V, .bool v]) ∧ Below w.heap.size w w' := by
  obtain ⟨rfl, rfl⟩ := hE
  have h3 : IntKind.i64.wrap (n + 20) = n + 20 := IntWalk.i64_in _ (by omega)
  have h3' : wrap64 (n + 20) = n + 20 := IntWalk.wrap64_in _ (by omega)
  by_cases q0 : 0 ≤ n
  · by_cases q1 : n ≤ 60
    · have e1 : nnB n = true := by simp [nnB, q0, q1, inB]
      have e2 : nnV n = ndP n := by simp [nnV, e1]
      have h4 : wrap64 (n + 20 - 1) = n + 20 - 1 := IntWalk.wrap64_in _ (by omega)
      have h5 : (n + 20 - 1).tdiv 20 = (n + 20 - 1) / 20 := by rw [Int.tdiv_eq_ediv_of_nonneg (by omega)]
      have h6 : wrap64 ((n + 20 - 1) / 20) = (n + 20 - 1) / 20 := IntWalk.wrap64_in _ (by omega)
      rw [e1, e2]
      clear e1 e2
      go_enter Tryz.func45, Tryz.ntmps45
      go_wp2
      go_ret2
      exact ⟨rfl, Below.refl _ _⟩
    · have e1 : nnB n = false := by simp [nnB, q0, q1, inB]
      have e2 : nnV n = 0 := by simp [nnV, e1]
      rw [e1, e2]
      clear e1 e2
      go_enter Tryz.func45, Tryz.ntmps45
      go_wp2
      go_ret2
      exact ⟨rfl, Below.refl _ _⟩
  · have e1 : nnB n = false := by simp [nnB, q0, inB]
    have e2 : nnV n = 0 := by simp [nnV, e1]
    rw [e1, e2]
    clear e1 e2
    go_enter Tryz.func45, Tryz.ntmps45
    go_wp2
    go_ret2
    exact ⟨rfl, Below.refl _ _⟩
theorem sHideSignals_k (k1 p1 : Int) (us : List Int) (A1 : Option Addr) (c1 : Nat) (page : Int) (ss : List Int) (A : Option Addr) (c : Nat) {l h l' h' : Nat} (w : World) (hr : Rd w l h A1 us) (hs : Rd w l' h' A ss) (hl : us.length ≤ 1048576) (hl' : ss.length ≤ 1048576) (O : List Int) (v : Bool) (hE : hsL 1 k1 p1 us page ss = O ∧ hsB k1 p1 us page ss = v) :
    Calls Tryz.prog 31 #[.agg #[.int .i64 k1, .int .i64 p1, .slice A1 us.length c1], .int .i64 page, .slice A ss.length c] w fun e w' => ∃ A c, e = .returned (.tuple #[.slice A O.length c, .bool v]) ∧ Rd w' 0 w'.heap.size A O ∧ O.length ≤ 1048576 ∧ Below w.heap.size w w' := by
  obtain ⟨rfl, rfl⟩ := hE
  refine (sHideSignals_any k1 p1 us A1 c1 page ss A c w hr hs hl hl').mono ?_
  rintro e w' ⟨A, c, he, q, n, hb⟩
  exact ⟨A, c, he, q, n, hb⟩
theorem sShowSignals_k (k1 p1 : Int) (us : List Int) (A1 : Option Addr) (c1 : Nat) (page : Int) (ss : List Int) (A : Option Addr) (c : Nat) {l h l' h' : Nat} (w : World) (hr : Rd w l h A1 us) (hs : Rd w l' h' A ss) (hl : us.length ≤ 1048576) (hl' : ss.length ≤ 1048576) (O : List Int) (v : Bool) (hE : hsL (-1) k1 p1 us page ss = O ∧ hsB k1 p1 us page ss = v) :
    Calls Tryz.prog 34 #[.agg #[.int .i64 k1, .int .i64 p1, .slice A1 us.length c1], .int .i64 page, .slice A ss.length c] w fun e w' => ∃ A c, e = .returned (.tuple #[.slice A O.length c, .bool v]) ∧ Rd w' 0 w'.heap.size A O ∧ O.length ≤ 1048576 ∧ Below w.heap.size w w' := by
  obtain ⟨rfl, rfl⟩ := hE
  refine (sShowSignals_any k1 p1 us A1 c1 page ss A c w hr hs hl hl').mono ?_
  rintro e w' ⟨A, c, he, q, n, hb⟩
  exact ⟨A, c, he, q, n, hb⟩
theorem sSecretText_k (y : List Int) (A2 : Option Addr) (c2 : Nat) (z : List Int) (B2 : Option Addr) (d2 : Nat) {l h l' h' : Nat} (w : World) (hr : Rd w l h A2 y) (hs : Rd w l' h' B2 z) (hl : y.length ≤ 1048576) (hl' : z.length ≤ 1048576) (hcap : y.length ≤ c2) (T : ByteArray) (v : Bool) (hE : str (stL y z) = T ∧ scB y z = v) :
    Calls Tryz.prog 40 #[.agg #[.slice A2 y.length c2, .slice B2 z.length d2]] w fun e w' => e = .returned (.tuple #[.string T, .bool v]) ∧ Below w.heap.size w w' := by
  obtain ⟨rfl, rfl⟩ := hE
  exact sSecretText_any y A2 c2 z B2 d2 w hr hs hl hl' hcap
theorem sParseSecret_k (t : ByteArray) (w : World) (hl : t.size ≤ 1048576) (P L : List Int) (v : Bool) (hE : psP t.data.toList = P ∧ psL t.data.toList = L ∧ psB t.data.toList = v) :
    Calls Tryz.prog 43 #[.string t] w fun e w' => ∃ A c B d, e = .returned (.tuple #[.agg #[.slice A P.length c, .slice B L.length d], .bool v]) ∧ Rd w' 0 w'.heap.size A P ∧ Rd w' 0 w'.heap.size B L ∧ (P.length ≤ 1048576 ∧ L.length ≤ 1048576) ∧ Below w.heap.size w w' := by
  obtain ⟨rfl, rfl, rfl⟩ := hE
  have h := sParseSecret_l t.data.toList w (by rw [Array.length_toList]; exact hl)
  rw [str_of] at h
  refine h.mono ?_
  rintro e w' ⟨A, c, B, d, he, q1, q2, n1, n2, hb⟩
  exact ⟨A, c, B, d, he, q1, q2, ⟨n1, n2⟩, hb⟩
theorem sChangedPlaces_k (y1 : List Int) (A1 : Option Addr) (c1 : Nat) (z1 : List Int) (B1 : Option Addr) (d1 : Nat) (y2 : List Int) (A2 : Option Addr) (c2 : Nat) (z2 : List Int) (B2 : Option Addr) (d2 : Nat) {l1 h1 l2 h2 l3 h3 l4 h4 : Nat} (w : World)
    (ry1 : Rd w l1 h1 A1 y1) (rz1 : Rd w l2 h2 B1 z1) (ry2 : Rd w l3 h3 A2 y2) (rz2 : Rd w l4 h4 B2 z2) (hy1 : y1.length ≤ 1048576) (hz1 : z1.length ≤ 1048576) (hy2 : y2.length ≤ 1048576) (hz2 : z2.length ≤ 1048576) (hcap1 : y1.length ≤ c1) (hcap2 : y2.length ≤ c2) (D : List Int) (v : Bool) (hE : cpL y1 z1 y2 z2 = D ∧ cpB y1 z1 y2 z2 = v) :
    Calls Tryz.prog 37 #[.agg #[.slice A1 y1.length c1, .slice B1 z1.length d1], .agg #[.slice A2 y2.length c2, .slice B2 z2.length d2]] w fun e w' => ∃ A c, e = .returned (.tuple #[.slice A D.length c, .bool v]) ∧ Rd w' 0 w'.heap.size A D ∧ D.length ≤ 1048576 ∧ Below w.heap.size w w' := by
  obtain ⟨rfl, rfl⟩ := hE
  refine (sChangedPlaces_any y1 A1 c1 z1 B1 d1 y2 A2 c2 z2 B2 d2 w ry1 rz1 ry2 rz2 hy1 hz1 hy2 hz2 hcap1 hcap2).mono ?_
  rintro e w' ⟨A, c, he, q, n, hb⟩
  exact ⟨A, c, he, q, n, hb⟩
theorem sNeededPages_k (n : Int) (w : World) (h0 : -1 ≤ n) (h1 : n ≤ 61) (V : Int) (v : Bool) (hE : nnV n = V ∧ nnB n = v) :
    Calls Tryz.prog 46 #[.int .i64 n] w fun e w' => e = .returned (.tuple #[.int .i64 V, .bool v]) ∧ Below w.heap.size w w' := by
  obtain ⟨rfl, rfl⟩ := hE
  have h3 : IntKind.i64.wrap (n + 20) = n + 20 := IntWalk.i64_in _ (by omega)
  have h3' : wrap64 (n + 20) = n + 20 := IntWalk.wrap64_in _ (by omega)
  by_cases q0 : 0 ≤ n
  · by_cases q1 : n ≤ 60
    · have e1 : nnB n = true := by simp [nnB, q0, q1, inB]
      have e2 : nnV n = ndP n := by simp [nnV, e1]
      have h4 : wrap64 (n + 20 - 1) = n + 20 - 1 := IntWalk.wrap64_in _ (by omega)
      have h5 : (n + 20 - 1).tdiv 20 = (n + 20 - 1) / 20 := by rw [Int.tdiv_eq_ediv_of_nonneg (by omega)]
      have h6 : wrap64 ((n + 20 - 1) / 20) = (n + 20 - 1) / 20 := IntWalk.wrap64_in _ (by omega)
      rw [e1, e2]
      clear e1 e2
      go_enter Tryz.func46, Tryz.ntmps46
      go_wp2
      go_ret2
      exact ⟨rfl, Below.refl _ _⟩
    · have e1 : nnB n = false := by simp [nnB, q0, q1, inB]
      have e2 : nnV n = 0 := by simp [nnV, e1]
      rw [e1, e2]
      clear e1 e2
      go_enter Tryz.func46, Tryz.ntmps46
      go_wp2
      go_ret2
      exact ⟨rfl, Below.refl _ _⟩
  · have e1 : nnB n = false := by simp [nnB, q0, inB]
    have e2 : nnV n = 0 := by simp [nnV, e1]
    rw [e1, e2]
    clear e1 e2
    go_enter Tryz.func46, Tryz.ntmps46
    go_wp2
    go_ret2
    exact ⟨rfl, Below.refl _ _⟩
theorem iIsSecret_k (y : List Int) (A2 : Option Addr) (c2 : Nat) (z : List Int) (B2 : Option Addr) (d2 : Nat) {l h l' h' : Nat} (w : World) (hr : Rd w l h A2 y) (hs : Rd w l' h' B2 z) (hl : y.length ≤ 1048576) (hl' : z.length ≤ 1048576) (v : Bool) (hv : scB y z = v) :
    Calls Tryz.prog 49 #[.agg #[.slice A2 y.length c2, .slice B2 z.length d2]] w fun e w' => e = .returned (.bool v) ∧ Below w.heap.size w w' := by
  subst hv; exact iIsSecret_any y A2 c2 z B2 d2 w hr hs hl hl'
theorem qHas_q (zs : List Int) (A : Option Addr) (k c : Nat) {l h : Nat} (m : Int) (w : World) (n : Nat) (hk : k = zs.length) (hr : Rd w l h A zs) (hl : zs.length ≤ 1048576) (v : Bool) (hv : hasB zs m = v) :
    Calls Tryz.prog 50 #[.slice A k c, .int .i64 m] (w.drewN n) fun e w'' => e = .returned (.bool v) ∧ ∃ j, w'' = w.drewN j :=
  Calls.quiet_of_same ((qHas_v zs A k c m (w.drewN n) hk (hr.drewN n) hl v hv).mono fun e w' ⟨he, hw⟩ => ⟨he, hw.symm⟩)
set_option maxRecDepth 100000 in
set_option maxHeartbeats 16000000 in
theorem fnSecretSignals_walk (A1 A2 : Option Addr) (n1 c1 n2 c2 : Nat) (w : World) (h1 : n1 ≤ c1) (h2 : n2 ≤ c2) (m1 : n1 ≤ 9223372036854775807) (m2 : n2 ≤ 9223372036854775807) (hcd1 : CodeAt w w.heap.size A1 n1) (hcd2 : CodeAt w w.heap.size A2 n2) (hS0 : Sen w) :
    Calls Tryz.prog 4 #[.slice A1 n1 c1, .slice A2 n2 c2] w fun e w' => e = .returned (.bool true) ∧ Below w.heap.size w w' := by
  go_enter Tryz.func4, Tryz.ntmps4
  obtain ⟨z, hz⟩ : ∃ z, wrap64 ((n1 : Int) + (n2 : Int)) = z := ⟨_, rfl⟩
  by_cases hbig : (1048576 : Int) < z
  · go_wp2_with fail
    go_ret
    exact ⟨rfl, Below.refl _ _⟩
  · skip
    have hB := Below.refl w.heap.size w
    have hcd := hcd2
    have hS := hS0
    clear hS0
    go_wp2_with fail
    clear hz hbig
    (with_reducible refine (drawHideSignals_any A1 n1 c1 _ hcd1 m1 h1).mono ?_)
    rintro e w1 ⟨ky, pg, us, A, c, pa, ss, B, d, rfl, ⟨hus, hss⟩, ru, rs, b1⟩
    have s1 : w.heap.size ≤ w1.heap.size := b1.size
    replace hB := hB.trans (Below.mono b1 hB.size)
    replace hcd := hcd.st b1
    replace hS := hS.st b1
    clear b1
    clear hcd1
    replace ru := ru.std
    replace rs := rs.std
    obtain ⟨O, hO⟩ : ∃ u, hsL 1 ky pg us pa ss = u := ⟨_, rfl⟩
    obtain ⟨v, hv⟩ : ∃ u, hsB ky pg us pa ss = u := ⟨_, rfl⟩
    have hE1 := Lib.hid (And.intro hO hv)
    clear hO hv
    go_wp2_with fail
    obtain ⟨w2, hw2⟩ : ∃ u, u = w1.alloc (.cells #[.int .i64 ky, .int .i64 pg, .slice A us.length c] 26) := ⟨_, rfl⟩
    rw [← hw2]
    have e2 : w2.heap.size = w1.heap.size + 1 := by rw [hw2]; simp
    have s2 : w1.heap.size + 1 ≤ w2.heap.size := by omega
    have b2 : Below w1.heap.size w1 w2 := by rw [hw2]; exact (Below.refl _ _).alloc (Nat.le_refl _) _
    have k5 : Bk w2 (w1.heap.size) 26 #[.int .i64 ky, .int .i64 pg, .slice A us.length c] := by rw [hw2]; exact Bk.new _ _ _
    replace hB := hB.trans (Below.mono b2 hB.size)
    replace hcd := hcd.st b2
    replace hS := hS.st b2
    replace ru := ru.st b2
    replace rs := rs.st b2
    replace e2 := Lib.hid e2
    clear b2 hw2
    (with_reducible refine (iHideSignals_k ky pg us A c pa ss B d _ ru rs (by omega) (by omega) O v hE1.out).mono ?_)
    rintro e w3 ⟨B8, d8, rfl, r8, nO, b3⟩
    have s3 : w2.heap.size ≤ w3.heap.size := b3.size
    replace hB := hB.trans (Below.mono b3 hB.size)
    replace hcd := hcd.st b3
    replace hS := hS.st b3
    replace ru := ru.st b3
    replace rs := rs.st b3
    replace k5 := k5.st b3
    clear b3
    have xl := k5.lt
    have x0 := k5.cell 0
    have x1 := k5.cell 1
    have x2 := k5.cell 2
    simp at x0 x1 x2
    go_wp2_with fail
    clear xl x0 x1 x2
    (with_reducible refine (sHideSignals_k ky pg us A c pa ss B d _ ru rs (by omega) (by omega) O v hE1.out).mono ?_)
    rintro e w4 ⟨B10, d10, rfl, r10, -, b4⟩
    have s4 : w3.heap.size ≤ w4.heap.size := b4.size
    replace hB := hB.trans (Below.mono b4 hB.size)
    replace hcd := hcd.st b4
    replace hS := hS.st b4
    replace ru := ru.st b4
    replace rs := rs.st b4
    replace k5 := k5.st b4
    replace r8 := r8.st b4
    clear b4
    go_wp2_with fail
    (with_reducible refine (drawShowSignals_any A2 n2 c2 _ hcd m2 h2).mono ?_)
    rintro e w5 ⟨ky2, pg2, us2, A12, c12, pb, ls, B14, d14, rfl, ⟨hus2, hls⟩, ru2, rl, b5⟩
    have s5 : w4.heap.size ≤ w5.heap.size := b5.size
    replace hB := hB.trans (Below.mono b5 hB.size)
    replace hcd := hcd.st b5
    replace hS := hS.st b5
    replace ru := ru.st b5
    replace rs := rs.st b5
    replace k5 := k5.st b5
    replace r8 := r8.st b5
    replace r10 := r10.st b5
    clear b5
    replace ru2 := ru2.std
    replace rl := rl.std
    obtain ⟨O2, hO2⟩ : ∃ u, hsL (-1) ky2 pg2 us2 pb ls = u := ⟨_, rfl⟩
    obtain ⟨v2, hv2⟩ : ∃ u, hsB ky2 pg2 us2 pb ls = u := ⟨_, rfl⟩
    have hE2 := Lib.hid (And.intro hO2 hv2)
    clear hO2 hv2
    go_wp2_with fail
    obtain ⟨w6, hw6⟩ : ∃ u, u = w5.alloc (.cells #[.int .i64 ky2, .int .i64 pg2, .slice A12 us2.length c12] 26) := ⟨_, rfl⟩
    rw [← hw6]
    have e6 : w6.heap.size = w5.heap.size + 1 := by rw [hw6]; simp
    have s6 : w5.heap.size + 1 ≤ w6.heap.size := by omega
    have b6 : Below w5.heap.size w5 w6 := by rw [hw6]; exact (Below.refl _ _).alloc (Nat.le_refl _) _
    have k12 : Bk w6 (w5.heap.size) 26 #[.int .i64 ky2, .int .i64 pg2, .slice A12 us2.length c12] := by rw [hw6]; exact Bk.new _ _ _
    replace hB := hB.trans (Below.mono b6 hB.size)
    replace hcd := hcd.st b6
    replace hS := hS.st b6
    replace ru := ru.st b6
    replace rs := rs.st b6
    replace k5 := k5.st b6
    replace r8 := r8.st b6
    replace r10 := r10.st b6
    replace ru2 := ru2.st b6
    replace rl := rl.st b6
    replace e6 := Lib.hid e6
    clear b6 hw6
    (with_reducible refine (iShowSignals_k ky2 pg2 us2 A12 c12 pb ls B14 d14 _ ru2 rl (by omega) (by omega) O2 v2 hE2.out).mono ?_)
    rintro e w7 ⟨B15, d15, rfl, r15, nO2, b7⟩
    have s7 : w6.heap.size ≤ w7.heap.size := b7.size
    replace hB := hB.trans (Below.mono b7 hB.size)
    replace hcd := hcd.st b7
    replace hS := hS.st b7
    replace ru := ru.st b7
    replace rs := rs.st b7
    replace k5 := k5.st b7
    replace r8 := r8.st b7
    replace r10 := r10.st b7
    replace ru2 := ru2.st b7
    replace rl := rl.st b7
    replace k12 := k12.st b7
    clear b7
    have xl := k12.lt
    have x0 := k12.cell 0
    have x1 := k12.cell 1
    have x2 := k12.cell 2
    simp at x0 x1 x2
    go_wp2_with fail
    clear xl x0 x1 x2
    (with_reducible refine (sShowSignals_k ky2 pg2 us2 A12 c12 pb ls B14 d14 _ ru2 rl (by omega) (by omega) O2 v2 hE2.out).mono ?_)
    rintro e w8 ⟨B17, d17, rfl, r17, -, b8⟩
    have s8 : w7.heap.size ≤ w8.heap.size := b8.size
    replace hB := hB.trans (Below.mono b8 hB.size)
    replace hcd := hcd.st b8
    replace hS := hS.st b8
    replace ru := ru.st b8
    replace rs := rs.st b8
    replace k5 := k5.st b8
    replace r8 := r8.st b8
    replace r10 := r10.st b8
    replace ru2 := ru2.st b8
    replace rl := rl.st b8
    replace k12 := k12.st b8
    replace r15 := r15.st b8
    clear b8
    go_wp2_with fail
    (with_reducible refine (drawChangedPlaces_any A2 n2 c2 _ hcd m2 h2).mono ?_)
    rintro e w9 ⟨P, S, B19, d19, C19, f19, P2, S2, B20, d20, C20, f20, rfl, ⟨a1, a2, a3, a4⟩, ⟨j1, j2, j3, j4⟩, rP, rS, rP2, rS2, b9⟩
    have s9 : w8.heap.size ≤ w9.heap.size := b9.size
    replace hB := hB.trans (Below.mono b9 hB.size)
    replace hcd := hcd.st b9
    replace hS := hS.st b9
    replace ru := ru.st b9
    replace rs := rs.st b9
    replace k5 := k5.st b9
    replace r8 := r8.st b9
    replace r10 := r10.st b9
    replace ru2 := ru2.st b9
    replace rl := rl.st b9
    replace k12 := k12.st b9
    replace r15 := r15.st b9
    replace r17 := r17.st b9
    clear b9
    obtain ⟨D, hD⟩ : ∃ u, cpL P S P2 S2 = u := ⟨_, rfl⟩
    obtain ⟨v3, hv3⟩ : ∃ u, cpB P S P2 S2 = u := ⟨_, rfl⟩
    have hE3 := Lib.hid (And.intro hD hv3)
    clear hD hv3
    go_wp2_with fail
    obtain ⟨w10, hw10⟩ : ∃ u, u = w9.alloc (.cells #[.slice B19 P.length d19, .slice C19 S.length f19] 53) := ⟨_, rfl⟩
    rw [← hw10]
    have e10 : w10.heap.size = w9.heap.size + 1 := by rw [hw10]; simp
    have s10 : w9.heap.size + 1 ≤ w10.heap.size := by omega
    have b10 : Below w9.heap.size w9 w10 := by rw [hw10]; exact (Below.refl _ _).alloc (Nat.le_refl _) _
    have k19 : Bk w10 (w9.heap.size) 53 #[.slice B19 P.length d19, .slice C19 S.length f19] := by rw [hw10]; exact Bk.new _ _ _
    replace hB := hB.trans (Below.mono b10 hB.size)
    replace hcd := hcd.st b10
    replace hS := hS.st b10
    replace ru := ru.st b10
    replace rs := rs.st b10
    replace k5 := k5.st b10
    replace r8 := r8.st b10
    replace r10 := r10.st b10
    replace ru2 := ru2.st b10
    replace rl := rl.st b10
    replace k12 := k12.st b10
    replace r15 := r15.st b10
    replace r17 := r17.st b10
    replace rP := rP.st b10
    replace rS := rS.st b10
    replace rP2 := rP2.st b10
    replace rS2 := rS2.st b10
    replace e10 := Lib.hid e10
    clear b10 hw10
    obtain ⟨w11, hw11⟩ : ∃ u, u = w10.alloc (.cells #[.slice B20 P2.length d20, .slice C20 S2.length f20] 53) := ⟨_, rfl⟩
    rw [← hw11]
    have e11 : w11.heap.size = w10.heap.size + 1 := by rw [hw11]; simp
    have s11 : w10.heap.size + 1 ≤ w11.heap.size := by omega
    have b11 : Below w10.heap.size w10 w11 := by rw [hw11]; exact (Below.refl _ _).alloc (Nat.le_refl _) _
    have a11 : w10.heap.size = w9.heap.size + 1 := by have h0 := e2.out; have h1 := e6.out; have h2 := e10.out; omega
    have k20 : Bk w11 (w9.heap.size + 1) 53 #[.slice B20 P2.length d20, .slice C20 S2.length f20] := by rw [← a11]; rw [hw11]; exact Bk.new _ _ _
    replace hB := hB.trans (Below.mono b11 hB.size)
    replace hcd := hcd.st b11
    replace hS := hS.st b11
    replace ru := ru.st b11
    replace rs := rs.st b11
    replace k5 := k5.st b11
    replace r8 := r8.st b11
    replace r10 := r10.st b11
    replace ru2 := ru2.st b11
    replace rl := rl.st b11
    replace k12 := k12.st b11
    replace r15 := r15.st b11
    replace r17 := r17.st b11
    replace rP := rP.st b11
    replace rS := rS.st b11
    replace rP2 := rP2.st b11
    replace rS2 := rS2.st b11
    replace k19 := k19.st b11
    replace e11 := Lib.hid e11
    clear b11 hw11 a11
    (with_reducible refine (iChangedPlaces_k P B19 d19 S C19 f19 P2 B20 d20 S2 C20 f20 _ rP rS rP2 rS2 (by omega) (by omega) (by omega) (by omega) D v3 hE3.out).mono ?_)
    rintro e w12 ⟨B21, d21, rfl, r21, nD, b12⟩
    have s12 : w11.heap.size ≤ w12.heap.size := b12.size
    replace hB := hB.trans (Below.mono b12 hB.size)
    replace hcd := hcd.st b12
    replace hS := hS.st b12
    replace ru := ru.st b12
    replace rs := rs.st b12
    replace k5 := k5.st b12
    replace r8 := r8.st b12
    replace r10 := r10.st b12
    replace ru2 := ru2.st b12
    replace rl := rl.st b12
    replace k12 := k12.st b12
    replace r15 := r15.st b12
    replace r17 := r17.st b12
    replace rP := rP.st b12
    replace rS := rS.st b12
    replace rP2 := rP2.st b12
    replace rS2 := rS2.st b12
    replace k19 := k19.st b12
    replace k20 := k20.st b12
    clear b12
    have xl := k19.lt
    have x0 := k19.cell 0
    have x1 := k19.cell 1
    simp at x0 x1
    have yl := k20.lt
    have y0 := k20.cell 0
    have y1 := k20.cell 1
    simp at y0 y1
    go_wp2_with fail
    clear xl x0 x1 yl y0 y1
    (with_reducible refine (sChangedPlaces_k P B19 d19 S C19 f19 P2 B20 d20 S2 C20 f20 _ rP rS rP2 rS2 (by omega) (by omega) (by omega) (by omega) a3 j3 D v3 hE3.out).mono ?_)
    rintro e w13 ⟨B23, d23, rfl, r23, -, b13⟩
    have s13 : w12.heap.size ≤ w13.heap.size := b13.size
    replace hB := hB.trans (Below.mono b13 hB.size)
    replace hcd := hcd.st b13
    replace hS := hS.st b13
    replace ru := ru.st b13
    replace rs := rs.st b13
    replace k5 := k5.st b13
    replace r8 := r8.st b13
    replace r10 := r10.st b13
    replace ru2 := ru2.st b13
    replace rl := rl.st b13
    replace k12 := k12.st b13
    replace r15 := r15.st b13
    replace r17 := r17.st b13
    replace rP := rP.st b13
    replace rS := rS.st b13
    replace rP2 := rP2.st b13
    replace rS2 := rS2.st b13
    replace k19 := k19.st b13
    replace k20 := k20.st b13
    replace r21 := r21.st b13
    clear b13
    clear rP rP2
    go_wp2_with fail
    (with_reducible refine (drawSecretText_any A2 n2 c2 _ hcd m2 h2).mono ?_)
    rintro e w14 ⟨tP, tS, B25, d25, C25, f25, rfl, ⟨q1, q2, q3, q4⟩, rt, ru5, b14⟩
    have s14 : w13.heap.size ≤ w14.heap.size := b14.size
    replace hB := hB.trans (Below.mono b14 hB.size)
    replace hcd := hcd.st b14
    replace hS := hS.st b14
    replace ru := ru.st b14
    replace rs := rs.st b14
    replace k5 := k5.st b14
    replace r8 := r8.st b14
    replace r10 := r10.st b14
    replace ru2 := ru2.st b14
    replace rl := rl.st b14
    replace k12 := k12.st b14
    replace r15 := r15.st b14
    replace r17 := r17.st b14
    replace rS := rS.st b14
    replace rS2 := rS2.st b14
    replace k19 := k19.st b14
    replace k20 := k20.st b14
    replace r21 := r21.st b14
    replace r23 := r23.st b14
    clear b14
    replace rt := rt.std
    replace ru5 := ru5.std
    obtain ⟨T, hT⟩ : ∃ u, str (stL tP tS) = u := ⟨_, rfl⟩
    obtain ⟨v5, hv5⟩ : ∃ u, scB tP tS = u := ⟨_, rfl⟩
    have hE5 := Lib.hid (And.intro hT hv5)
    clear hT hv5
    have hTl : T.size ≤ 1000000 := by rw [← hE5.out.1, str_size]; exact st_len _ _
    go_wp2_with fail
    obtain ⟨w15, hw15⟩ : ∃ u, u = w14.alloc (.cells #[.slice B25 tP.length d25, .slice C25 tS.length f25] 53) := ⟨_, rfl⟩
    rw [← hw15]
    have e15 : w15.heap.size = w14.heap.size + 1 := by rw [hw15]; simp
    have s15 : w14.heap.size + 1 ≤ w15.heap.size := by omega
    have b15 : Below w14.heap.size w14 w15 := by rw [hw15]; exact (Below.refl _ _).alloc (Nat.le_refl _) _
    have k25 : Bk w15 (w14.heap.size) 53 #[.slice B25 tP.length d25, .slice C25 tS.length f25] := by rw [hw15]; exact Bk.new _ _ _
    replace hB := hB.trans (Below.mono b15 hB.size)
    replace hcd := hcd.st b15
    replace hS := hS.st b15
    replace ru := ru.st b15
    replace rs := rs.st b15
    replace k5 := k5.st b15
    replace r8 := r8.st b15
    replace r10 := r10.st b15
    replace ru2 := ru2.st b15
    replace rl := rl.st b15
    replace k12 := k12.st b15
    replace r15 := r15.st b15
    replace r17 := r17.st b15
    replace rS := rS.st b15
    replace rS2 := rS2.st b15
    replace k19 := k19.st b15
    replace k20 := k20.st b15
    replace r21 := r21.st b15
    replace r23 := r23.st b15
    replace rt := rt.st b15
    replace ru5 := ru5.st b15
    replace e15 := Lib.hid e15
    clear b15 hw15
    (with_reducible refine (iSecretText_k tP B25 d25 tS C25 f25 _ rt ru5 (by omega) (by omega) hS.pow T v5 hE5.out).mono ?_)
    rintro e w16 ⟨rfl, b16⟩
    have s16 : w15.heap.size ≤ w16.heap.size := b16.size
    replace hB := hB.trans (Below.mono b16 hB.size)
    replace hcd := hcd.st b16
    replace hS := hS.st b16
    replace ru := ru.st b16
    replace rs := rs.st b16
    replace k5 := k5.st b16
    replace r8 := r8.st b16
    replace r10 := r10.st b16
    replace ru2 := ru2.st b16
    replace rl := rl.st b16
    replace k12 := k12.st b16
    replace r15 := r15.st b16
    replace r17 := r17.st b16
    replace rS := rS.st b16
    replace rS2 := rS2.st b16
    replace k19 := k19.st b16
    replace k20 := k20.st b16
    replace r21 := r21.st b16
    replace r23 := r23.st b16
    replace rt := rt.st b16
    replace ru5 := ru5.st b16
    replace k25 := k25.st b16
    clear b16
    have xl := k25.lt
    have x0 := k25.cell 0
    have x1 := k25.cell 1
    simp at x0 x1
    go_wp2_with fail
    clear xl x0 x1
    (with_reducible refine (sSecretText_k tP B25 d25 tS C25 f25 _ rt ru5 (by omega) (by omega) q3 T v5 hE5.out).mono ?_)
    rintro e w17 ⟨rfl, b17⟩
    have s17 : w16.heap.size ≤ w17.heap.size := b17.size
    replace hB := hB.trans (Below.mono b17 hB.size)
    replace hcd := hcd.st b17
    replace hS := hS.st b17
    replace ru := ru.st b17
    replace rs := rs.st b17
    replace k5 := k5.st b17
    replace r8 := r8.st b17
    replace r10 := r10.st b17
    replace ru2 := ru2.st b17
    replace rl := rl.st b17
    replace k12 := k12.st b17
    replace r15 := r15.st b17
    replace r17 := r17.st b17
    replace rS := rS.st b17
    replace rS2 := rS2.st b17
    replace k19 := k19.st b17
    replace k20 := k20.st b17
    replace r21 := r21.st b17
    replace r23 := r23.st b17
    replace rt := rt.st b17
    replace ru5 := ru5.st b17
    replace k25 := k25.st b17
    clear b17
    go_wp2_with fail
    (with_reducible refine (drawParseSecret_any A2 n2 c2 _ hcd m2 h2).mono ?_)
    rintro e w18 ⟨t, rfl, ht, b18⟩
    have s18 : w17.heap.size ≤ w18.heap.size := b18.size
    replace hB := hB.trans (Below.mono b18 hB.size)
    replace hcd := hcd.st b18
    replace hS := hS.st b18
    replace ru := ru.st b18
    replace rs := rs.st b18
    replace k5 := k5.st b18
    replace r8 := r8.st b18
    replace r10 := r10.st b18
    replace ru2 := ru2.st b18
    replace rl := rl.st b18
    replace k12 := k12.st b18
    replace r15 := r15.st b18
    replace r17 := r17.st b18
    replace rS := rS.st b18
    replace rS2 := rS2.st b18
    replace k19 := k19.st b18
    replace k20 := k20.st b18
    replace r21 := r21.st b18
    replace r23 := r23.st b18
    replace rt := rt.st b18
    replace ru5 := ru5.st b18
    replace k25 := k25.st b18
    clear b18
    obtain ⟨qP, hqP⟩ : ∃ u, psP t.data.toList = u := ⟨_, rfl⟩
    obtain ⟨qL, hqL⟩ : ∃ u, psL t.data.toList = u := ⟨_, rfl⟩
    obtain ⟨v7, hv7⟩ : ∃ u, psB t.data.toList = u := ⟨_, rfl⟩
    have hE7 := Lib.hid (And.intro hqP (And.intro hqL hv7))
    clear hqP hqL hv7
    go_wp2_with fail
    (with_reducible refine (iParseSecret_k t _ (by omega) hS qP qL v7 hE7.out).mono ?_)
    rintro e w19 ⟨B31, d31, C31, f31, rfl, r31, t31, ⟨nP, nQ⟩, b19⟩
    have s19 : w18.heap.size ≤ w19.heap.size := b19.size
    replace hB := hB.trans (Below.mono b19 hB.size)
    replace hcd := hcd.st b19
    replace hS := hS.st b19
    replace ru := ru.st b19
    replace rs := rs.st b19
    replace k5 := k5.st b19
    replace r8 := r8.st b19
    replace r10 := r10.st b19
    replace ru2 := ru2.st b19
    replace rl := rl.st b19
    replace k12 := k12.st b19
    replace r15 := r15.st b19
    replace r17 := r17.st b19
    replace rS := rS.st b19
    replace rS2 := rS2.st b19
    replace k19 := k19.st b19
    replace k20 := k20.st b19
    replace r21 := r21.st b19
    replace r23 := r23.st b19
    replace rt := rt.st b19
    replace ru5 := ru5.st b19
    replace k25 := k25.st b19
    clear b19
    go_wp2_with fail
    obtain ⟨w20, hw20⟩ : ∃ u, u = w19.alloc (.cells #[.slice B31 qP.length d31, .slice C31 qL.length f31] 53) := ⟨_, rfl⟩
    rw [← hw20]
    have e20 : w20.heap.size = w19.heap.size + 1 := by rw [hw20]; simp
    have s20 : w19.heap.size + 1 ≤ w20.heap.size := by omega
    have b20 : Below w19.heap.size w19 w20 := by rw [hw20]; exact (Below.refl _ _).alloc (Nat.le_refl _) _
    have k31 : Bk w20 (w19.heap.size) 53 #[.slice B31 qP.length d31, .slice C31 qL.length f31] := by rw [hw20]; exact Bk.new _ _ _
    replace hB := hB.trans (Below.mono b20 hB.size)
    replace hcd := hcd.st b20
    replace hS := hS.st b20
    replace ru := ru.st b20
    replace rs := rs.st b20
    replace k5 := k5.st b20
    replace r8 := r8.st b20
    replace r10 := r10.st b20
    replace ru2 := ru2.st b20
    replace rl := rl.st b20
    replace k12 := k12.st b20
    replace r15 := r15.st b20
    replace r17 := r17.st b20
    replace rS := rS.st b20
    replace rS2 := rS2.st b20
    replace k19 := k19.st b20
    replace k20 := k20.st b20
    replace r21 := r21.st b20
    replace r23 := r23.st b20
    replace rt := rt.st b20
    replace ru5 := ru5.st b20
    replace k25 := k25.st b20
    replace r31 := r31.st b20
    replace t31 := t31.st b20
    replace e20 := Lib.hid e20
    clear b20 hw20
    (with_reducible refine (sParseSecret_k t _ (by omega) qP qL v7 hE7.out).mono ?_)
    rintro e w21 ⟨B33, d33, C33, f33, rfl, r33, t33, -, b21⟩
    have s21 : w20.heap.size ≤ w21.heap.size := b21.size
    replace hB := hB.trans (Below.mono b21 hB.size)
    replace hcd := hcd.st b21
    replace hS := hS.st b21
    replace ru := ru.st b21
    replace rs := rs.st b21
    replace k5 := k5.st b21
    replace r8 := r8.st b21
    replace r10 := r10.st b21
    replace ru2 := ru2.st b21
    replace rl := rl.st b21
    replace k12 := k12.st b21
    replace r15 := r15.st b21
    replace r17 := r17.st b21
    replace rS := rS.st b21
    replace rS2 := rS2.st b21
    replace k19 := k19.st b21
    replace k20 := k20.st b21
    replace r21 := r21.st b21
    replace r23 := r23.st b21
    replace rt := rt.st b21
    replace ru5 := ru5.st b21
    replace k25 := k25.st b21
    replace r31 := r31.st b21
    replace t31 := t31.st b21
    replace k31 := k31.st b21
    clear b21
    go_wp2_with fail
    obtain ⟨w22, hw22⟩ : ∃ u, u = w21.alloc (.cells #[.slice B33 qP.length d33, .slice C33 qL.length f33] 53) := ⟨_, rfl⟩
    rw [← hw22]
    have e22 : w22.heap.size = w21.heap.size + 1 := by rw [hw22]; simp
    have s22 : w21.heap.size + 1 ≤ w22.heap.size := by omega
    have b22 : Below w21.heap.size w21 w22 := by rw [hw22]; exact (Below.refl _ _).alloc (Nat.le_refl _) _
    have k33 : Bk w22 (w21.heap.size) 53 #[.slice B33 qP.length d33, .slice C33 qL.length f33] := by rw [hw22]; exact Bk.new _ _ _
    replace hB := hB.trans (Below.mono b22 hB.size)
    replace hcd := hcd.st b22
    replace hS := hS.st b22
    replace ru := ru.st b22
    replace rs := rs.st b22
    replace k5 := k5.st b22
    replace r8 := r8.st b22
    replace r10 := r10.st b22
    replace ru2 := ru2.st b22
    replace rl := rl.st b22
    replace k12 := k12.st b22
    replace r15 := r15.st b22
    replace r17 := r17.st b22
    replace rS := rS.st b22
    replace rS2 := rS2.st b22
    replace k19 := k19.st b22
    replace k20 := k20.st b22
    replace r21 := r21.st b22
    replace r23 := r23.st b22
    replace rt := rt.st b22
    replace ru5 := ru5.st b22
    replace k25 := k25.st b22
    replace r31 := r31.st b22
    replace t31 := t31.st b22
    replace k31 := k31.st b22
    replace r33 := r33.st b22
    replace t33 := t33.st b22
    replace e22 := Lib.hid e22
    clear b22 hw22
    (with_reducible refine (drawNeededPages_any A2 n2 c2 _ hcd m2 h2).mono ?_)
    rintro e w23 ⟨nn, rfl, ⟨hn1, hn2⟩, b23⟩
    have s23 : w22.heap.size ≤ w23.heap.size := b23.size
    replace hB := hB.trans (Below.mono b23 hB.size)
    replace hcd := hcd.st b23
    replace hS := hS.st b23
    replace ru := ru.st b23
    replace rs := rs.st b23
    replace k5 := k5.st b23
    replace r8 := r8.st b23
    replace r10 := r10.st b23
    replace ru2 := ru2.st b23
    replace rl := rl.st b23
    replace k12 := k12.st b23
    replace r15 := r15.st b23
    replace r17 := r17.st b23
    replace rS := rS.st b23
    replace rS2 := rS2.st b23
    replace k19 := k19.st b23
    replace k20 := k20.st b23
    replace r21 := r21.st b23
    replace r23 := r23.st b23
    replace rt := rt.st b23
    replace ru5 := ru5.st b23
    replace k25 := k25.st b23
    replace r31 := r31.st b23
    replace t31 := t31.st b23
    replace k31 := k31.st b23
    replace r33 := r33.st b23
    replace t33 := t33.st b23
    replace k33 := k33.st b23
    clear b23
    clear hcd
    obtain ⟨V9, hV9⟩ : ∃ u, nnV nn = u := ⟨_, rfl⟩
    obtain ⟨v9, hv9⟩ : ∃ u, nnB nn = u := ⟨_, rfl⟩
    have hE9 := Lib.hid (And.intro hV9 hv9)
    clear hV9 hv9
    go_wp2_with fail
    (with_reducible refine (iNeededPages_k nn _ hn1 hn2 V9 v9 hE9.out).mono ?_)
    rintro e w24 ⟨rfl, b24⟩
    have s24 : w23.heap.size ≤ w24.heap.size := b24.size
    replace hB := hB.trans (Below.mono b24 hB.size)
    replace hS := hS.st b24
    replace ru := ru.st b24
    replace rs := rs.st b24
    replace k5 := k5.st b24
    replace r8 := r8.st b24
    replace r10 := r10.st b24
    replace ru2 := ru2.st b24
    replace rl := rl.st b24
    replace k12 := k12.st b24
    replace r15 := r15.st b24
    replace r17 := r17.st b24
    replace rS := rS.st b24
    replace rS2 := rS2.st b24
    replace k19 := k19.st b24
    replace k20 := k20.st b24
    replace r21 := r21.st b24
    replace r23 := r23.st b24
    replace rt := rt.st b24
    replace ru5 := ru5.st b24
    replace k25 := k25.st b24
    replace r31 := r31.st b24
    replace t31 := t31.st b24
    replace k31 := k31.st b24
    replace r33 := r33.st b24
    replace t33 := t33.st b24
    replace k33 := k33.st b24
    clear b24
    go_wp2_with fail
    (with_reducible refine (sNeededPages_k nn _ hn1 hn2 V9 v9 hE9.out).mono ?_)
    rintro e w25 ⟨rfl, b25⟩
    have s25 : w24.heap.size ≤ w25.heap.size := b25.size
    replace hB := hB.trans (Below.mono b25 hB.size)
    replace hS := hS.st b25
    replace ru := ru.st b25
    replace rs := rs.st b25
    replace k5 := k5.st b25
    replace r8 := r8.st b25
    replace r10 := r10.st b25
    replace ru2 := ru2.st b25
    replace rl := rl.st b25
    replace k12 := k12.st b25
    replace r15 := r15.st b25
    replace r17 := r17.st b25
    replace rS := rS.st b25
    replace rS2 := rS2.st b25
    replace k19 := k19.st b25
    replace k20 := k20.st b25
    replace r21 := r21.st b25
    replace r23 := r23.st b25
    replace rt := rt.st b25
    replace ru5 := ru5.st b25
    replace k25 := k25.st b25
    replace r31 := r31.st b25
    replace t31 := t31.st b25
    replace k31 := k31.st b25
    replace r33 := r33.st b25
    replace t33 := t33.st b25
    replace k33 := k33.st b25
    clear b25
    go_upto_region 21 with fail
    go_cut [214] (fun s6 wq => s6 = .bool false ∧ Below w.heap.size w wq ∧ Bk wq (w1.heap.size) 26 #[.int .i64 ky, .int .i64 pg, .slice A us.length c] ∧ Rd wq 0 wq.heap.size A us ∧ Rd wq 0 wq.heap.size B ss ∧ Rd wq 0 wq.heap.size B8 O ∧ Bk wq (w5.heap.size) 26 #[.int .i64 ky2, .int .i64 pg2, .slice A12 us2.length c12] ∧ Rd wq 0 wq.heap.size A12 us2 ∧ Rd wq 0 wq.heap.size B14 ls ∧ Rd wq 0 wq.heap.size B15 O2 ∧ Sen wq ∧ Bk wq (w14.heap.size) 53 #[.slice B25 tP.length d25, .slice C25 tS.length f25] ∧ Rd wq 0 wq.heap.size B25 tP ∧ Rd wq 0 wq.heap.size C25 tS ∧ Bk wq (w9.heap.size) 53 #[.slice B19 P.length d19, .slice C19 S.length f19] ∧ Bk wq (w9.heap.size + 1) 53 #[.slice B20 P2.length d20, .slice C20 S2.length f20] ∧ Rd wq 0 wq.heap.size C19 S ∧ Rd wq 0 wq.heap.size C20 S2 ∧ Rd wq 0 wq.heap.size B23 D)
    case first =>
      as_aux_lemma =>
        go_wp2_with fail
        (with_reducible refine (qInts_t O B8 B10 O.length O.length d8 d10 _ rfl rfl r8 r10 nO).mono ?_)
        rintro e w26 ⟨rfl, b26⟩
        have s26 : w25.heap.size ≤ w26.heap.size := b26.size
        replace hB := hB.trans (Below.mono b26 hB.size)
        replace hS := hS.st b26
        replace ru := ru.st b26
        replace rs := rs.st b26
        replace k5 := k5.st b26
        replace r8 := r8.st b26
        replace r10 := r10.st b26
        replace ru2 := ru2.st b26
        replace rl := rl.st b26
        replace k12 := k12.st b26
        replace r15 := r15.st b26
        replace r17 := r17.st b26
        replace rS := rS.st b26
        replace rS2 := rS2.st b26
        replace k19 := k19.st b26
        replace k20 := k20.st b26
        replace r21 := r21.st b26
        replace r23 := r23.st b26
        replace rt := rt.st b26
        replace ru5 := ru5.st b26
        replace k25 := k25.st b26
        replace r31 := r31.st b26
        replace t31 := t31.st b26
        replace k31 := k31.st b26
        replace r33 := r33.st b26
        replace t33 := t33.st b26
        replace k33 := k33.st b26
        clear b26
        clear r10
        go_wp2_with fail
        (with_reducible refine (qInts_t O2 B15 B17 O2.length O2.length d15 d17 _ rfl rfl r15 r17 nO2).mono ?_)
        rintro e w27 ⟨rfl, b27⟩
        have s27 : w26.heap.size ≤ w27.heap.size := b27.size
        replace hB := hB.trans (Below.mono b27 hB.size)
        replace hS := hS.st b27
        replace ru := ru.st b27
        replace rs := rs.st b27
        replace k5 := k5.st b27
        replace r8 := r8.st b27
        replace ru2 := ru2.st b27
        replace rl := rl.st b27
        replace k12 := k12.st b27
        replace r15 := r15.st b27
        replace r17 := r17.st b27
        replace rS := rS.st b27
        replace rS2 := rS2.st b27
        replace k19 := k19.st b27
        replace k20 := k20.st b27
        replace r21 := r21.st b27
        replace r23 := r23.st b27
        replace rt := rt.st b27
        replace ru5 := ru5.st b27
        replace k25 := k25.st b27
        replace r31 := r31.st b27
        replace t31 := t31.st b27
        replace k31 := k31.st b27
        replace r33 := r33.st b27
        replace t33 := t33.st b27
        replace k33 := k33.st b27
        clear b27
        clear r17
        go_wp2_with fail
        (with_reducible refine (qInts_t D B21 B23 D.length D.length d21 d23 _ rfl rfl r21 r23 nD).mono ?_)
        rintro e w28 ⟨rfl, b28⟩
        have s28 : w27.heap.size ≤ w28.heap.size := b28.size
        replace hB := hB.trans (Below.mono b28 hB.size)
        replace hS := hS.st b28
        replace ru := ru.st b28
        replace rs := rs.st b28
        replace k5 := k5.st b28
        replace r8 := r8.st b28
        replace ru2 := ru2.st b28
        replace rl := rl.st b28
        replace k12 := k12.st b28
        replace r15 := r15.st b28
        replace rS := rS.st b28
        replace rS2 := rS2.st b28
        replace k19 := k19.st b28
        replace k20 := k20.st b28
        replace r21 := r21.st b28
        replace r23 := r23.st b28
        replace rt := rt.st b28
        replace ru5 := ru5.st b28
        replace k25 := k25.st b28
        replace r31 := r31.st b28
        replace t31 := t31.st b28
        replace k31 := k31.st b28
        replace r33 := r33.st b28
        replace t33 := t33.st b28
        replace k33 := k33.st b28
        clear b28
        clear r21
        have xl := k31.lt
        have x0 := k31.cell 0
        have x1 := k31.cell 1
        simp at x0 x1
        have yl := k33.lt
        have y0 := k33.cell 0
        have y1 := k33.cell 1
        simp at y0 y1
        go_wp2_with fail
        clear xl x0 x1 yl y0 y1
        (with_reducible refine (qSecret_t qP qL B31 B33 C31 C33 qP.length qP.length qL.length qL.length d31 d33 f31 f33 _ rfl rfl rfl rfl r31 r33 t31 t33 nP nQ).mono ?_)
        rintro e w29 ⟨rfl, b29⟩
        have s29 : w28.heap.size ≤ w29.heap.size := b29.size
        replace hB := hB.trans (Below.mono b29 hB.size)
        replace hS := hS.st b29
        replace ru := ru.st b29
        replace rs := rs.st b29
        replace k5 := k5.st b29
        replace r8 := r8.st b29
        replace ru2 := ru2.st b29
        replace rl := rl.st b29
        replace k12 := k12.st b29
        replace r15 := r15.st b29
        replace rS := rS.st b29
        replace rS2 := rS2.st b29
        replace k19 := k19.st b29
        replace k20 := k20.st b29
        replace r23 := r23.st b29
        replace rt := rt.st b29
        replace ru5 := ru5.st b29
        replace k25 := k25.st b29
        replace r31 := r31.st b29
        replace t31 := t31.st b29
        replace k31 := k31.st b29
        replace r33 := r33.st b29
        replace t33 := t33.st b29
        replace k33 := k33.st b29
        clear b29
        clear r31 r33 t31 t33 k31 k33
        have xl := k25.lt
        have x0 := k25.cell 0
        have x1 := k25.cell 1
        simp at x0 x1
        go_wp2_with fail
        clear xl x0 x1
        (with_reducible refine (iIsSecret_k tP B25 d25 tS C25 f25 _ rt ru5 (by omega) (by omega) v5 hE5.out.2).mono ?_)
        rintro e w30 ⟨rfl, b30⟩
        have s30 : w29.heap.size ≤ w30.heap.size := b30.size
        replace hB := hB.trans (Below.mono b30 hB.size)
        replace hS := hS.st b30
        replace ru := ru.st b30
        replace rs := rs.st b30
        replace k5 := k5.st b30
        replace r8 := r8.st b30
        replace ru2 := ru2.st b30
        replace rl := rl.st b30
        replace k12 := k12.st b30
        replace r15 := r15.st b30
        replace rS := rS.st b30
        replace rS2 := rS2.st b30
        replace k19 := k19.st b30
        replace k20 := k20.st b30
        replace r23 := r23.st b30
        replace rt := rt.st b30
        replace ru5 := ru5.st b30
        replace k25 := k25.st b30
        clear b30
        replace ru := ru.std
        replace rs := rs.std
        replace r8 := r8.std
        replace ru2 := ru2.std
        replace rl := rl.std
        replace r15 := r15.std
        replace rt := rt.std
        replace ru5 := ru5.std
        replace rS := rS.std
        replace rS2 := rS2.std
        replace r23 := r23.std
        have hall := Lib.hid (And.intro hB (And.intro k5 (And.intro ru (And.intro rs (And.intro r8 (And.intro k12 (And.intro ru2 (And.intro rl (And.intro r15 (And.intro hS (And.intro k25 (And.intro rt (And.intro ru5 (And.intro k19 (And.intro k20 (And.intro rS (And.intro rS2 r23)))))))))))))))))
        clear hB k5 ru rs r8 k12 ru2 rl r15 hS k25 rt ru5 k19 k20 rS rS2 r23
        go_wp2_with fail
        go_meet
        case rel => exact ⟨by first | rfl | simp, hall.out.1, hall.out.2.1, hall.out.2.2.1, hall.out.2.2.2.1, hall.out.2.2.2.2.1, hall.out.2.2.2.2.2.1, hall.out.2.2.2.2.2.2.1, hall.out.2.2.2.2.2.2.2.1, hall.out.2.2.2.2.2.2.2.2.1, hall.out.2.2.2.2.2.2.2.2.2.1, hall.out.2.2.2.2.2.2.2.2.2.2.1, hall.out.2.2.2.2.2.2.2.2.2.2.2.1, hall.out.2.2.2.2.2.2.2.2.2.2.2.2.1, hall.out.2.2.2.2.2.2.2.2.2.2.2.2.2.1, hall.out.2.2.2.2.2.2.2.2.2.2.2.2.2.2.1, hall.out.2.2.2.2.2.2.2.2.2.2.2.2.2.2.2.1, hall.out.2.2.2.2.2.2.2.2.2.2.2.2.2.2.2.2.1, hall.out.2.2.2.2.2.2.2.2.2.2.2.2.2.2.2.2.2⟩
    case rest =>
      as_aux_lemma =>
        clear hB hS ru rs k5 r8 r10 ru2 rl k12 r15 r17 rS rS2 k19 k20 r21 r23 rt ru5 k25 r31 t31 k31 r33 t33 k33
        obtain ⟨rfl, hB, k5, ru, rs, r8, k12, ru2, rl, r15, hS, k25, rt, ru5, k19, k20, rS, rS2, r23⟩ := hcut
        obtain ⟨wa, rfl⟩ : ∃ u, u = wc := ⟨_, rfl⟩
        go_upto_if 215 with fail
        go_cut [] (fun wq => Below w.heap.size w wq ∧ Bk wq (w1.heap.size) 26 #[.int .i64 ky, .int .i64 pg, .slice A us.length c] ∧ Rd wq 0 wq.heap.size A us ∧ Rd wq 0 wq.heap.size B ss ∧ Rd wq 0 wq.heap.size B8 O ∧ Bk wq (w5.heap.size) 26 #[.int .i64 ky2, .int .i64 pg2, .slice A12 us2.length c12] ∧ Rd wq 0 wq.heap.size A12 us2 ∧ Rd wq 0 wq.heap.size B14 ls ∧ Rd wq 0 wq.heap.size B15 O2 ∧ Sen wq ∧ Bk wq (w14.heap.size) 53 #[.slice B25 tP.length d25, .slice C25 tS.length f25] ∧ Rd wq 0 wq.heap.size B25 tP ∧ Rd wq 0 wq.heap.size C25 tS)
        case first =>
          as_aux_lemma =>
            cases v3 with
            | false =>
              replace ru := ru.std
              replace rs := rs.std
              replace r8 := r8.std
              replace ru2 := ru2.std
              replace rl := rl.std
              replace r15 := r15.std
              replace rt := rt.std
              replace ru5 := ru5.std
              have hall := Lib.hid (And.intro hB (And.intro k5 (And.intro ru (And.intro rs (And.intro r8 (And.intro k12 (And.intro ru2 (And.intro rl (And.intro r15 (And.intro hS (And.intro k25 (And.intro rt ru5))))))))))))
              clear hB k5 ru rs r8 k12 ru2 rl r15 hS k25 rt ru5
              clear k19 k20 rS rS2 r23
              go_wp2_with fail
              go_meet
              case rel => exact ⟨hall.out.1, hall.out.2.1, hall.out.2.2.1, hall.out.2.2.2.1, hall.out.2.2.2.2.1, hall.out.2.2.2.2.2.1, hall.out.2.2.2.2.2.2.1, hall.out.2.2.2.2.2.2.2.1, hall.out.2.2.2.2.2.2.2.2.1, hall.out.2.2.2.2.2.2.2.2.2.1, hall.out.2.2.2.2.2.2.2.2.2.2.1, hall.out.2.2.2.2.2.2.2.2.2.2.2.1, hall.out.2.2.2.2.2.2.2.2.2.2.2.2⟩
            | true =>
              obtain ⟨g1, g2, g3, g4⟩ := cp_has hE3.out.2 hE3.out.1
              have hpl := Lib.hid (And.intro g1 g4)
              clear g1 g3 g4
              have xl := k19.lt
              have x0 := k19.cell 0
              have x1 := k19.cell 1
              simp at x0 x1
              go_wp2_with fail
              clear k19 xl x0 x1
              replace ru := ru.std
              replace rs := rs.std
              replace r8 := r8.std
              replace ru2 := ru2.std
              replace rl := rl.std
              replace r15 := r15.std
              replace rt := rt.std
              replace ru5 := ru5.std
              replace rS := rS.std
              replace rS2 := rS2.std
              replace r23 := r23.std
              go_loopw [219] (fun i wr => ∃ k : Nat, k ≤ S.length ∧ i = .int .i64 (k : Int) ∧ Below w.heap.size w wr ∧ Bk wr (w1.heap.size) 26 #[.int .i64 ky, .int .i64 pg, .slice A us.length c] ∧ Rd wr 0 wr.heap.size A us ∧ Rd wr 0 wr.heap.size B ss ∧ Rd wr 0 wr.heap.size B8 O ∧ Bk wr (w5.heap.size) 26 #[.int .i64 ky2, .int .i64 pg2, .slice A12 us2.length c12] ∧ Rd wr 0 wr.heap.size A12 us2 ∧ Rd wr 0 wr.heap.size B14 ls ∧ Rd wr 0 wr.heap.size B15 O2 ∧ Sen wr ∧ Bk wr (w14.heap.size) 53 #[.slice B25 tP.length d25, .slice C25 tS.length f25] ∧ Rd wr 0 wr.heap.size B25 tP ∧ Rd wr 0 wr.heap.size C25 tS ∧ Bk wr (w9.heap.size + 1) 53 #[.slice B20 P2.length d20, .slice C20 S2.length f20] ∧ Rd wr 0 wr.heap.size C19 S ∧ Rd wr 0 wr.heap.size C20 S2 ∧ Rd wr 0 wr.heap.size B23 D) (fun i _ => S.length - (intOf i).toNat)
              case atStart => exact ⟨0, Nat.zero_le _, rfl, hB, k5, ru, rs, r8, k12, ru2, rl, r15, hS, k25, rt, ru5, k20, rS, rS2, r23⟩
              case round =>
                as_aux_lemma =>
                  clear hB k5 ru rs r8 k12 ru2 rl r15 hS k25 rt ru5 k20 rS rS2 r23
                  obtain ⟨k, hk, rfl, hB, k5, ru, rs, r8, k12, ru2, rl, r15, hS, k25, rt, ru5, k20, rS, rS2, r23⟩ := hrel
                  by_cases hlt : k < S.length
                  · have hlt3 : k < S2.length := by have := hpl.out.1; omega
                    have hh := hpl.out.2 k hlt hlt3
                    obtain ⟨b1, o1, he1, -, -, hc1⟩ := rS (by omega)
                    have y0 := hc1 k hlt
                    obtain ⟨b2, o2, he2, -, -, hc2⟩ := rS2 (by omega)
                    have y1 := hc2 k hlt3
                    obtain ⟨zi, hzi⟩ : ∃ u, u = S[k] := ⟨_, rfl⟩
                    obtain ⟨yi, hyi⟩ : ∃ u, u = S2[k] := ⟨_, rfl⟩
                    rw [← hzi] at y0 hh
                    rw [← hyi] at y1 hh
                    clear hc1 hc2 hzi hyi
                    subst he1 he2
                    have i0 : (0 : Int) ≤ (k : Int) := by omega
                    have i1 : (k : Int) < (S.length : Int) := by omega
                    have i2 : (k : Int) < (S2.length : Int) := by omega
                    have i3 : k < S2.length := hlt3
                    have xl := k20.lt
                    have x0 := k20.cell 0
                    have x1 := k20.cell 1
                    simp at x0 x1
                    by_cases hzy : zi = yi
                    · have hne : (zi != yi) = false := by simp [hzy]
                      rw [hne] at hh
                      have hhH := Lib.hid hh
                      clear hh hzy
                      go_wp2_with fail
                      go_quiet ((go_at_call 50; exact qHas_q D B23 D.length d23 (k : Int) _ _ rfl r23 nD false hhH.out))
                      replace hB := below_drewN hB nq
                      replace k5 := k5.drewN nq
                      replace ru := ru.drewN nq
                      replace rs := rs.drewN nq
                      replace r8 := r8.drewN nq
                      replace k12 := k12.drewN nq
                      replace ru2 := ru2.drewN nq
                      replace rl := rl.drewN nq
                      replace r15 := r15.drewN nq
                      replace hS : Sen (wr.drewN nq) := hS.st (below_refl_drewN nq)
                      replace k25 := k25.drewN nq
                      replace rt := rt.drewN nq
                      replace ru5 := ru5.drewN nq
                      replace k20 := k20.drewN nq
                      replace rS := rS.drewN nq
                      replace rS2 := rS2.drewN nq
                      replace r23 := r23.drewN nq
                      have hall := Lib.hid (And.intro hB (And.intro k5 (And.intro ru (And.intro rs (And.intro r8 (And.intro k12 (And.intro ru2 (And.intro rl (And.intro r15 (And.intro hS (And.intro k25 (And.intro rt (And.intro ru5 (And.intro k20 (And.intro rS (And.intro rS2 r23))))))))))))))))
                      clear hB k5 ru rs r8 k12 ru2 rl r15 hS k25 rt ru5 k20 rS rS2 r23
                      clear y0 y1 i0 i1 i2 hne xl x0 x1
                      go_wp2_with fail
                      go_roundw
                      case rel => exact ⟨k + 1, by omega, by go_num, hall.out.1, hall.out.2.1, hall.out.2.2.1, hall.out.2.2.2.1, hall.out.2.2.2.2.1, hall.out.2.2.2.2.2.1, hall.out.2.2.2.2.2.2.1, hall.out.2.2.2.2.2.2.2.1, hall.out.2.2.2.2.2.2.2.2.1, hall.out.2.2.2.2.2.2.2.2.2.1, hall.out.2.2.2.2.2.2.2.2.2.2.1, hall.out.2.2.2.2.2.2.2.2.2.2.2.1, hall.out.2.2.2.2.2.2.2.2.2.2.2.2.1, hall.out.2.2.2.2.2.2.2.2.2.2.2.2.2.1, hall.out.2.2.2.2.2.2.2.2.2.2.2.2.2.2.1, hall.out.2.2.2.2.2.2.2.2.2.2.2.2.2.2.2.1, hall.out.2.2.2.2.2.2.2.2.2.2.2.2.2.2.2.2⟩
                      case measure => simp [intOf]; omega
                    · have hne : (zi != yi) = true := by simp [hzy]
                      rw [hne] at hh
                      have hhH := Lib.hid hh
                      clear hh hzy
                      go_wp2_with fail
                      go_quiet ((go_at_call 50; exact qHas_q D B23 D.length d23 (k : Int) _ _ rfl r23 nD true hhH.out))
                      replace hB := below_drewN hB nq
                      replace k5 := k5.drewN nq
                      replace ru := ru.drewN nq
                      replace rs := rs.drewN nq
                      replace r8 := r8.drewN nq
                      replace k12 := k12.drewN nq
                      replace ru2 := ru2.drewN nq
                      replace rl := rl.drewN nq
                      replace r15 := r15.drewN nq
                      replace hS : Sen (wr.drewN nq) := hS.st (below_refl_drewN nq)
                      replace k25 := k25.drewN nq
                      replace rt := rt.drewN nq
                      replace ru5 := ru5.drewN nq
                      replace k20 := k20.drewN nq
                      replace rS := rS.drewN nq
                      replace rS2 := rS2.drewN nq
                      replace r23 := r23.drewN nq
                      have hall := Lib.hid (And.intro hB (And.intro k5 (And.intro ru (And.intro rs (And.intro r8 (And.intro k12 (And.intro ru2 (And.intro rl (And.intro r15 (And.intro hS (And.intro k25 (And.intro rt (And.intro ru5 (And.intro k20 (And.intro rS (And.intro rS2 r23))))))))))))))))
                      clear hB k5 ru rs r8 k12 ru2 rl r15 hS k25 rt ru5 k20 rS rS2 r23
                      clear y0 y1 i0 i1 i2 hne xl x0 x1
                      go_wp2_with fail
                      go_roundw
                      case rel => exact ⟨k + 1, by omega, by go_num, hall.out.1, hall.out.2.1, hall.out.2.2.1, hall.out.2.2.2.1, hall.out.2.2.2.2.1, hall.out.2.2.2.2.2.1, hall.out.2.2.2.2.2.2.1, hall.out.2.2.2.2.2.2.2.1, hall.out.2.2.2.2.2.2.2.2.1, hall.out.2.2.2.2.2.2.2.2.2.1, hall.out.2.2.2.2.2.2.2.2.2.2.1, hall.out.2.2.2.2.2.2.2.2.2.2.2.1, hall.out.2.2.2.2.2.2.2.2.2.2.2.2.1, hall.out.2.2.2.2.2.2.2.2.2.2.2.2.2.1, hall.out.2.2.2.2.2.2.2.2.2.2.2.2.2.2.1, hall.out.2.2.2.2.2.2.2.2.2.2.2.2.2.2.2.1, hall.out.2.2.2.2.2.2.2.2.2.2.2.2.2.2.2.2⟩
                      case measure => simp [intOf]; omega
                  · have hlt2 : ¬ ((k : Int) < (S.length : Int)) := by omega
                    clear k20 rS rS2 r23
                    have hall := Lib.hid (And.intro hB (And.intro k5 (And.intro ru (And.intro rs (And.intro r8 (And.intro k12 (And.intro ru2 (And.intro rl (And.intro r15 (And.intro hS (And.intro k25 (And.intro rt ru5))))))))))))
                    clear hB k5 ru rs r8 k12 ru2 rl r15 hS k25 rt ru5
                    go_wp2_with fail
                    go_meet
                    case rel => exact ⟨hall.out.1, hall.out.2.1, hall.out.2.2.1, hall.out.2.2.2.1, hall.out.2.2.2.2.1, hall.out.2.2.2.2.2.1, hall.out.2.2.2.2.2.2.1, hall.out.2.2.2.2.2.2.2.1, hall.out.2.2.2.2.2.2.2.2.1, hall.out.2.2.2.2.2.2.2.2.2.1, hall.out.2.2.2.2.2.2.2.2.2.2.1, hall.out.2.2.2.2.2.2.2.2.2.2.2.1, hall.out.2.2.2.2.2.2.2.2.2.2.2.2⟩
        case rest =>
          as_aux_lemma =>
            clear hB k5 ru rs r8 k12 ru2 rl r15 hS k25 rt ru5 k19 k20 rS rS2 r23
            obtain ⟨hB, k5, ru, rs, r8, k12, ru2, rl, r15, hS, k25, rt, ru5⟩ := hcut
            obtain ⟨wb, rfl⟩ : ∃ u, u = wc := ⟨_, rfl⟩
            go_upto_if 236 with fail
            go_cut [] (fun wq => Below w.heap.size w wq ∧ Bk wq (w1.heap.size) 26 #[.int .i64 ky, .int .i64 pg, .slice A us.length c] ∧ Rd wq 0 wq.heap.size A us ∧ Rd wq 0 wq.heap.size B ss ∧ Rd wq 0 wq.heap.size B8 O ∧ Bk wq (w5.heap.size) 26 #[.int .i64 ky2, .int .i64 pg2, .slice A12 us2.length c12] ∧ Rd wq 0 wq.heap.size A12 us2 ∧ Rd wq 0 wq.heap.size B14 ls ∧ Rd wq 0 wq.heap.size B15 O2)
            case first =>
              as_aux_lemma =>
                cases v5 with
                | false =>
                  replace ru := ru.std
                  replace rs := rs.std
                  replace r8 := r8.std
                  replace ru2 := ru2.std
                  replace rl := rl.std
                  replace r15 := r15.std
                  have hall := Lib.hid (And.intro hB (And.intro k5 (And.intro ru (And.intro rs (And.intro r8 (And.intro k12 (And.intro ru2 (And.intro rl r15))))))))
                  clear hB k5 ru rs r8 k12 ru2 rl r15
                  clear hS k25 rt ru5
                  go_wp2_with fail
                  go_meet
                  case rel => exact ⟨hall.out.1, hall.out.2.1, hall.out.2.2.1, hall.out.2.2.2.1, hall.out.2.2.2.2.1, hall.out.2.2.2.2.2.1, hall.out.2.2.2.2.2.2.1, hall.out.2.2.2.2.2.2.2.1, hall.out.2.2.2.2.2.2.2.2⟩
                | true =>
                  have hbk : Hid (psP T.data.toList = tP ∧ psL T.data.toList = tS ∧ psB T.data.toList = true) := Lib.hid (by have h := st_back hE5.out.2; rw [← hE5.out.1, str_toList]; exact h)
                  go_wp2_with fail
                  (with_reducible refine (iParseSecret_k T _ (by omega) hS tP tS true hbk.out).mono ?_)
                  rintro e w31 ⟨B42, d42, C42, f42, rfl, r42, t42, -, b31⟩
                  have s31 : wb.heap.size ≤ w31.heap.size := b31.size
                  replace hB := hB.trans (Below.mono b31 hB.size)
                  replace k5 := k5.st b31
                  replace ru := ru.st b31
                  replace rs := rs.st b31
                  replace r8 := r8.st b31
                  replace k12 := k12.st b31
                  replace ru2 := ru2.st b31
                  replace rl := rl.st b31
                  replace r15 := r15.st b31
                  replace hS := hS.st b31
                  replace k25 := k25.st b31
                  replace rt := rt.st b31
                  replace ru5 := ru5.st b31
                  clear b31
                  have xl := k25.lt
                  have x0 := k25.cell 0
                  have x1 := k25.cell 1
                  simp at x0 x1
                  go_wp2_with fail
                  clear xl x0 x1
                  obtain ⟨w32, hw32⟩ : ∃ u, u = w31.alloc (.cells #[.slice B42 tP.length d42, .slice C42 tS.length f42] 53) := ⟨_, rfl⟩
                  rw [← hw32]
                  have e32 : w32.heap.size = w31.heap.size + 1 := by rw [hw32]; simp
                  have s32 : w31.heap.size + 1 ≤ w32.heap.size := by omega
                  have b32 : Below w31.heap.size w31 w32 := by rw [hw32]; exact (Below.refl _ _).alloc (Nat.le_refl _) _
                  replace hB := hB.trans (Below.mono b32 hB.size)
                  replace k5 := k5.st b32
                  replace ru := ru.st b32
                  replace rs := rs.st b32
                  replace r8 := r8.st b32
                  replace k12 := k12.st b32
                  replace ru2 := ru2.st b32
                  replace rl := rl.st b32
                  replace r15 := r15.st b32
                  replace hS := hS.st b32
                  replace k25 := k25.st b32
                  replace rt := rt.st b32
                  replace ru5 := ru5.st b32
                  replace r42 := r42.st b32
                  replace t42 := t42.st b32
                  replace e32 := Lib.hid e32
                  clear b32 hw32
                  (with_reducible refine (qSecret_t tP tS B42 B25 C42 C25 tP.length tP.length tS.length tS.length d42 d25 f42 f25 _ rfl rfl rfl rfl r42 rt t42 ru5 (by omega) (by omega)).mono ?_)
                  rintro e w33 ⟨rfl, b33⟩
                  have s33 : w32.heap.size ≤ w33.heap.size := b33.size
                  replace hB := hB.trans (Below.mono b33 hB.size)
                  replace k5 := k5.st b33
                  replace ru := ru.st b33
                  replace rs := rs.st b33
                  replace r8 := r8.st b33
                  replace k12 := k12.st b33
                  replace ru2 := ru2.st b33
                  replace rl := rl.st b33
                  replace r15 := r15.st b33
                  replace hS := hS.st b33
                  replace k25 := k25.st b33
                  replace rt := rt.st b33
                  replace ru5 := ru5.st b33
                  replace r42 := r42.st b33
                  replace t42 := t42.st b33
                  clear b33
                  replace ru := ru.std
                  replace rs := rs.std
                  replace r8 := r8.std
                  replace ru2 := ru2.std
                  replace rl := rl.std
                  replace r15 := r15.std
                  have hall := Lib.hid (And.intro hB (And.intro k5 (And.intro ru (And.intro rs (And.intro r8 (And.intro k12 (And.intro ru2 (And.intro rl r15))))))))
                  clear hB k5 ru rs r8 k12 ru2 rl r15
                  clear hS k25 rt ru5 r42 t42
                  go_wp2_with fail
                  go_meet
                  case rel => exact ⟨hall.out.1, hall.out.2.1, hall.out.2.2.1, hall.out.2.2.2.1, hall.out.2.2.2.2.1, hall.out.2.2.2.2.2.1, hall.out.2.2.2.2.2.2.1, hall.out.2.2.2.2.2.2.2.1, hall.out.2.2.2.2.2.2.2.2⟩
            case rest =>
              as_aux_lemma =>
                clear hB k5 ru rs r8 k12 ru2 rl r15 hS k25 rt ru5
                obtain ⟨hB, k5, ru, rs, r8, k12, ru2, rl, r15⟩ := hcut
                obtain ⟨wd, rfl⟩ : ∃ u, u = wc := ⟨_, rfl⟩
                go_upto_if 250 with fail
                go_cut [] (fun wq => Below w.heap.size w wq ∧ Bk wq (w1.heap.size) 26 #[.int .i64 ky, .int .i64 pg, .slice A us.length c] ∧ Rd wq 0 wq.heap.size A us ∧ Rd wq 0 wq.heap.size B ss ∧ Rd wq 0 wq.heap.size B8 O)
                case first =>
                  as_aux_lemma =>
                    cases v2 with
                    | false =>
                      replace ru := ru.std
                      replace rs := rs.std
                      replace r8 := r8.std
                      have hall := Lib.hid (And.intro hB (And.intro k5 (And.intro ru (And.intro rs r8))))
                      clear hB k5 ru rs r8
                      clear k12 ru2 rl r15
                      go_wp2_with fail
                      go_meet
                      case rel => exact ⟨hall.out.1, hall.out.2.1, hall.out.2.2.1, hall.out.2.2.2.1, hall.out.2.2.2.2⟩
                    | true =>
                      obtain ⟨g1, g2, g3, g4⟩ := hs_back (.inr rfl) hE2.out.2 hE2.out.1
                      have hbk := Lib.hid (And.intro (show hsL 1 ky2 pg2 us2 pb O2 = ls from g2) g1)
                      clear g1 g2
                      have xl := k12.lt
                      have x0 := k12.cell 0
                      have x1 := k12.cell 1
                      have x2 := k12.cell 2
                      simp at x0 x1 x2
                      go_wp2_with fail
                      clear xl x0 x1 x2
                      (with_reducible refine (iHideSignals_k ky2 pg2 us2 A12 c12 pb O2 B15 d15 _ ru2 r15 (by omega) nO2 ls true hbk.out).mono ?_)
                      rintro e w34 ⟨B44, d44, rfl, r44, -, b34⟩
                      have s34 : wd.heap.size ≤ w34.heap.size := b34.size
                      replace hB := hB.trans (Below.mono b34 hB.size)
                      replace k5 := k5.st b34
                      replace ru := ru.st b34
                      replace rs := rs.st b34
                      replace r8 := r8.st b34
                      replace k12 := k12.st b34
                      replace ru2 := ru2.st b34
                      replace rl := rl.st b34
                      replace r15 := r15.st b34
                      clear b34
                      go_wp2_with fail
                      (with_reducible refine (qInts_t ls B44 B14 ls.length ls.length d44 d14 _ rfl rfl r44 rl (by omega)).mono ?_)
                      rintro e w35 ⟨rfl, b35⟩
                      have s35 : w34.heap.size ≤ w35.heap.size := b35.size
                      replace hB := hB.trans (Below.mono b35 hB.size)
                      replace k5 := k5.st b35
                      replace ru := ru.st b35
                      replace rs := rs.st b35
                      replace r8 := r8.st b35
                      replace k12 := k12.st b35
                      replace ru2 := ru2.st b35
                      replace rl := rl.st b35
                      replace r15 := r15.st b35
                      replace r44 := r44.st b35
                      clear b35
                      replace ru := ru.std
                      replace rs := rs.std
                      replace r8 := r8.std
                      have hall := Lib.hid (And.intro hB (And.intro k5 (And.intro ru (And.intro rs r8))))
                      clear hB k5 ru rs r8
                      clear k12 ru2 rl r15 r44
                      go_wp2_with fail
                      go_meet
                      case rel => exact ⟨hall.out.1, hall.out.2.1, hall.out.2.2.1, hall.out.2.2.2.1, hall.out.2.2.2.2⟩
                case rest =>
                  as_aux_lemma =>
                    clear hB k5 ru rs r8 k12 ru2 rl r15
                    obtain ⟨hB, k5, ru, rs, r8⟩ := hcut
                    obtain ⟨we, rfl⟩ : ∃ u, u = wc := ⟨_, rfl⟩
                    cases v with
                    | false =>
                      have hBH := Lib.hid hB
                      clear hB k5 ru rs r8
                      go_wp2_with fail
                      go_ret
                      exact ⟨rfl, hBH.out⟩
                    | true =>
                      obtain ⟨g1, g2, g3, g4⟩ := hs_back (.inl rfl) hE1.out.2 hE1.out.1
                      have hbk := Lib.hid (And.intro (show hsL (-1) ky pg us pa O = ss from g2) g1)
                      clear g1 g2
                      have xl := k5.lt
                      have x0 := k5.cell 0
                      have x1 := k5.cell 1
                      have x2 := k5.cell 2
                      simp at x0 x1 x2
                      go_wp2_with fail
                      clear xl x0 x1 x2
                      (with_reducible refine (iShowSignals_k ky pg us A c pa O B8 d8 _ ru r8 (by omega) nO ss true hbk.out).mono ?_)
                      rintro e w36 ⟨B46, d46, rfl, r46, -, b36⟩
                      have s36 : we.heap.size ≤ w36.heap.size := b36.size
                      replace hB := hB.trans (Below.mono b36 hB.size)
                      replace k5 := k5.st b36
                      replace ru := ru.st b36
                      replace rs := rs.st b36
                      replace r8 := r8.st b36
                      clear b36
                      go_wp2_with fail
                      (with_reducible refine (qInts_t ss B46 B ss.length ss.length d46 d _ rfl rfl r46 rs (by omega)).mono ?_)
                      rintro e w37 ⟨rfl, b37⟩
                      have s37 : w36.heap.size ≤ w37.heap.size := b37.size
                      replace hB := hB.trans (Below.mono b37 hB.size)
                      replace k5 := k5.st b37
                      replace ru := ru.st b37
                      replace rs := rs.st b37
                      replace r8 := r8.st b37
                      replace r46 := r46.st b37
                      clear b37
                      have hBH := Lib.hid hB
                      clear hB k5 ru rs r8 r46
                      go_wp2_with fail
                      go_ret
                      exact ⟨rfl, hBH.out⟩
end Go.Proofs.YtjhbffndiaggmaaGreatDoor
