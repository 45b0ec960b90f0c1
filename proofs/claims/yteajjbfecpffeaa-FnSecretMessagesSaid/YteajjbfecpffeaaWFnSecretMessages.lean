/-
  The walk through FnSecretMessages. The conditions are bounds on lengths.
-/
import Derived.Test.YteajjbfecpffeaaCurSd
import Derived.Test.YteajjbfecpffeaaFactS
import Derived.Test.YteajjbfecpffeaaLawQ
import Derived.Test.YteajjbfecpffeaaHideM
import Derived.Test.YteajjbfecpffeaaRecv
import Derived.Deep.DeepCutAuto
import Derived.Deep.CutBlock
namespace Go.Proofs.Yteajjbfecpffeaa
open Go.RowKit Go.ChangeShapes Go.WideShapes
set_option linter.unusedVariables false
set_option linter.unusedSimpArgs false

theorem plV_yes {key pages : Int} {us : List Int} (h : kbB key pages us = true) : plV key pages us = pages - (us.length : Int) := by simp [plV, h]
/-- what was received once, the letters laid apart -/
theorem sm_again {key pages K G : Int} {us P S L O : List Int} {v : Bool} (hE : rsK key pages us P S = K ∧ rsG key pages us P S = G ∧ rsL key pages us P S = L ∧ rsS key pages us P S = O ∧ rsB key pages us P S = v) (hv : v = true) :
    rsB K G L P S = decide ((P.length : Int) = 0) ∧ kbB K G L = true ∧ kbB key pages us = true ∧ plV key pages us - plV K G L = (P.length : Int) ∧ (0 ≤ plV key pages us ∧ plV key pages us ≤ 60) ∧ (0 ≤ plV K G L ∧ plV K G L ≤ 60) ∧ osB key pages us P S = true ∧ osL key pages us P S = O := by
  obtain ⟨e1, e2, e3, e4, e5⟩ := hE
  rw [hv] at e5
  obtain ⟨f1, f2, f3, f4⟩ := rs_yes e5
  obtain ⟨g1, g2, g3, g4, g5, g6, g7⟩ := sm_one e5
  rw [f1] at e1
  rw [f2] at e2
  rw [f3] at e3
  rw [f4] at e4
  subst e1 e2 e3
  obtain ⟨-, hp, -⟩ := kb_facts g3
  have q1 := plV_yes g3
  have q2 := plV_yes g2
  have q3 := kb_len g3
  have q4 := kb_len g2
  refine ⟨g1, g2, g3, by rw [q1, q2, g4]; omega, by omega, by omega, g5, by rw [osL_yes g5]; exact e4⟩
theorem iHideMessage_w (k1 p1 : Int) (us : List Int) (A1 : Option Addr) (c1 : Nat) (z : List Int) (A3 : Option Addr) (c3 : Nat) {l1 h1 l3 h3 : Nat} (w : World) (r10 : Rd w l1 h1 A1 us) (r30 : Rd w l3 h3 A3 z) (hl1 : us.length ≤ 1048576) (hl3 : z.length ≤ 1048576) (K G : Int) (L P S : List Int) (v : Bool) (hE : hmK k1 p1 us z = K ∧ hmG k1 p1 us z = G ∧ hmL k1 p1 us z = L ∧ hmP k1 p1 us z = P ∧ hmS k1 p1 us z = S ∧ hmB k1 p1 us z = v) :
    Calls Try.prog 29 #[.agg #[.int .i64 k1, .int .i64 p1, .slice A1 us.length c1], .slice A3 z.length c3] w fun e w' => ∃ A c B d C f, e = .returned (.tuple #[.agg #[.int .i64 K, .int .i64 G, .slice A L.length c], .agg #[.slice B P.length d, .slice C S.length f], .bool v]) ∧ Rd w' 0 w'.heap.size A L ∧ Rd w' 0 w'.heap.size B P ∧ Rd w' 0 w'.heap.size C S ∧ (L.length ≤ 1048576 ∧ P.length ≤ 1048576 ∧ S.length ≤ 1048576) ∧ Below w.heap.size w w' := by
  obtain ⟨rfl, rfl, rfl, rfl, rfl, rfl⟩ := hE
  refine (iHideMessage_any k1 p1 us A1 c1 z A3 c3 w r10 r30 hl1 hl3).mono fun e w' h => ?_
  obtain ⟨A, c, B, d, C, f, m1, m2, m3, m4, m5, m6, he, q1, q2, q3, -, n1, n2, n3, hb⟩ := h
  exact ⟨A, c, B, d, C, f, he, q1.rd'.std, q2.rd'.std, q3.rd'.std, ⟨n1, n2, n3⟩, hb⟩
theorem sHideMessage_w (k1 p1 : Int) (us : List Int) (A1 : Option Addr) (c1 : Nat) (z : List Int) (A3 : Option Addr) (c3 : Nat) {l1 h1 l3 h3 : Nat} (w : World) (r10 : Rd w l1 h1 A1 us) (r30 : Rd w l3 h3 A3 z) (hl1 : us.length ≤ 1048576) (hl3 : z.length ≤ 1048576) (hcap : z.length ≤ c3) (K G : Int) (L P S : List Int) (v : Bool) (hE : hmK k1 p1 us z = K ∧ hmG k1 p1 us z = G ∧ hmL k1 p1 us z = L ∧ hmP k1 p1 us z = P ∧ hmS k1 p1 us z = S ∧ hmB k1 p1 us z = v) :
    Calls Try.prog 30 #[.agg #[.int .i64 k1, .int .i64 p1, .slice A1 us.length c1], .slice A3 z.length c3] w fun e w' => ∃ A c B d C f, e = .returned (.tuple #[.agg #[.int .i64 K, .int .i64 G, .slice A L.length c], .agg #[.slice B P.length d, .slice C S.length f], .bool v]) ∧ Rd w' 0 w'.heap.size A L ∧ Rd w' 0 w'.heap.size B P ∧ Rd w' 0 w'.heap.size C S ∧ (L.length ≤ 1048576 ∧ P.length ≤ 1048576 ∧ S.length ≤ 1048576) ∧ Below w.heap.size w w' := by
  obtain ⟨rfl, rfl, rfl, rfl, rfl, rfl⟩ := hE
  refine (sHideMessage_any k1 p1 us A1 c1 z A3 c3 w r10 r30 hl1 hl3 hcap).mono fun e w' h => ?_
  obtain ⟨A, c, B, d, C, f, he, q1, q2, q3, n1, n2, n3, hb⟩ := h
  exact ⟨A, c, B, d, C, f, he, q1, q2, q3, ⟨n1, n2, n3⟩, hb⟩
theorem iReceiveSecret_w (k1 p1 : Int) (us : List Int) (A1 : Option Addr) (c1 : Nat) (y : List Int) (A2 : Option Addr) (c2 : Nat) (z : List Int) (A3 : Option Addr) (c3 : Nat) {l1 h1 l2 h2 l3 h3 : Nat} (w : World) (r10 : Rd w l1 h1 A1 us) (r20 : Rd w l2 h2 A2 y) (r30 : Rd w l3 h3 A3 z) (hl1 : us.length ≤ 1048576) (hl2 : y.length ≤ 1048576) (hl3 : z.length ≤ 1048576) (K G : Int) (L O : List Int) (v : Bool) (hE : rsK k1 p1 us y z = K ∧ rsG k1 p1 us y z = G ∧ rsL k1 p1 us y z = L ∧ rsS k1 p1 us y z = O ∧ rsB k1 p1 us y z = v) :
    Calls Try.prog 32 #[.agg #[.int .i64 k1, .int .i64 p1, .slice A1 us.length c1], .agg #[.slice A2 y.length c2, .slice A3 z.length c3]] w fun e w' => ∃ A c B d, e = .returned (.tuple #[.agg #[.int .i64 K, .int .i64 G, .slice A L.length c], .slice B O.length d, .bool v]) ∧ Rd w' 0 w'.heap.size A L ∧ Rd w' 0 w'.heap.size B O ∧ (L.length ≤ 1048576 ∧ O.length ≤ 1048576) ∧ Below w.heap.size w w' := by
  obtain ⟨rfl, rfl, rfl, rfl, rfl⟩ := hE
  refine (iReceiveSecret_any k1 p1 us A1 c1 y A2 c2 z A3 c3 w r10 r20 r30 hl1 hl2 hl3).mono fun e w' h => ?_
  obtain ⟨A, c, B, d, m1, m2, m3, m4, he, q1, q2, -, n1, n2, hb⟩ := h
  exact ⟨A, c, B, d, he, q1.rd'.std, q2.rd'.std, ⟨n1, n2⟩, hb⟩
theorem iOpenSecret_w (k1 p1 : Int) (us : List Int) (A1 : Option Addr) (c1 : Nat) (y : List Int) (A2 : Option Addr) (c2 : Nat) (z : List Int) (A3 : Option Addr) (c3 : Nat) {l1 h1 l2 h2 l3 h3 : Nat} (w : World) (r10 : Rd w l1 h1 A1 us) (r20 : Rd w l2 h2 A2 y) (r30 : Rd w l3 h3 A3 z) (hl1 : us.length ≤ 1048576) (hl2 : y.length ≤ 1048576) (hl3 : z.length ≤ 1048576) (O : List Int) (v : Bool) (hE : osL k1 p1 us y z = O ∧ osB k1 p1 us y z = v) :
    Calls Try.prog 34 #[.agg #[.int .i64 k1, .int .i64 p1, .slice A1 us.length c1], .agg #[.slice A2 y.length c2, .slice A3 z.length c3]] w fun e w' => ∃ B d, e = .returned (.tuple #[.slice B O.length d, .bool v]) ∧ Rd w' 0 w'.heap.size B O ∧ O.length ≤ 1048576 ∧ Below w.heap.size w w' := by
  obtain ⟨rfl, rfl⟩ := hE
  refine (iOpenSecret_any k1 p1 us A1 c1 y A2 c2 z A3 c3 w r10 r20 r30 hl1 hl2 hl3).mono fun e w' h => ?_
  obtain ⟨B, d, he, q1, n1, hb⟩ := h
  exact ⟨B, d, he, q1.rd'.std, n1, hb⟩
theorem sReceiveSecret_w (k1 p1 : Int) (us : List Int) (A1 : Option Addr) (c1 : Nat) (y : List Int) (A2 : Option Addr) (c2 : Nat) (z : List Int) (A3 : Option Addr) (c3 : Nat) {l1 h1 l2 h2 l3 h3 : Nat} (w : World) (r10 : Rd w l1 h1 A1 us) (r20 : Rd w l2 h2 A2 y) (r30 : Rd w l3 h3 A3 z) (hl1 : us.length ≤ 1048576) (hl2 : y.length ≤ 1048576) (hl3 : z.length ≤ 1048576) (hcap : y.length ≤ c2) (hcap3 : z.length ≤ c3) (K G : Int) (L O : List Int) (v : Bool) (hE : rsK k1 p1 us y z = K ∧ rsG k1 p1 us y z = G ∧ rsL k1 p1 us y z = L ∧ rsS k1 p1 us y z = O ∧ rsB k1 p1 us y z = v) :
    Calls Try.prog 33 #[.agg #[.int .i64 k1, .int .i64 p1, .slice A1 us.length c1], .agg #[.slice A2 y.length c2, .slice A3 z.length c3]] w fun e w' => ∃ A c B d, e = .returned (.tuple #[.agg #[.int .i64 K, .int .i64 G, .slice A L.length c], .slice B O.length d, .bool v]) ∧ Rd w' 0 w'.heap.size A L ∧ Rd w' 0 w'.heap.size B O ∧ (L.length ≤ 1048576 ∧ O.length ≤ 1048576) ∧ Below w.heap.size w w' := by
  obtain ⟨rfl, rfl, rfl, rfl, rfl⟩ := hE
  refine (sReceiveSecret_any k1 p1 us A1 c1 y A2 c2 z A3 c3 w r10 r20 r30 hl1 hl2 hl3 hcap hcap3).mono fun e w' h => ?_
  obtain ⟨A, c, B, d, he, q1, q2, n1, n2, hb⟩ := h
  exact ⟨A, c, B, d, he, q1.std, q2.std, ⟨n1, n2⟩, hb⟩
theorem sOpenSecret_w (k1 p1 : Int) (us : List Int) (A1 : Option Addr) (c1 : Nat) (y : List Int) (A2 : Option Addr) (c2 : Nat) (z : List Int) (A3 : Option Addr) (c3 : Nat) {l1 h1 l2 h2 l3 h3 : Nat} (w : World) (r10 : Rd w l1 h1 A1 us) (r20 : Rd w l2 h2 A2 y) (r30 : Rd w l3 h3 A3 z) (hl1 : us.length ≤ 1048576) (hl2 : y.length ≤ 1048576) (hl3 : z.length ≤ 1048576) (hcap : y.length ≤ c2) (hcap3 : z.length ≤ c3) (O : List Int) (v : Bool) (hE : osL k1 p1 us y z = O ∧ osB k1 p1 us y z = v) :
    Calls Try.prog 35 #[.agg #[.int .i64 k1, .int .i64 p1, .slice A1 us.length c1], .agg #[.slice A2 y.length c2, .slice A3 z.length c3]] w fun e w' => ∃ B d, e = .returned (.tuple #[.slice B O.length d, .bool v]) ∧ Rd w' 0 w'.heap.size B O ∧ O.length ≤ 1048576 ∧ Below w.heap.size w w' := by
  obtain ⟨rfl, rfl⟩ := hE
  refine (sOpenSecret_any k1 p1 us A1 c1 y A2 c2 z A3 c3 w r10 r20 r30 hl1 hl2 hl3 hcap hcap3).mono fun e w' h => ?_
  obtain ⟨B, d, he, q1, n1, hb⟩ := h
  exact ⟨B, d, he, q1, n1, hb⟩
theorem iPagesLeft_w (k1 p1 : Int) (us : List Int) (A1 : Option Addr) (c1 : Nat) {l h : Nat} (w : World) (hr : Rd w l h A1 us) (hl : us.length ≤ 1048576) (V : Int) (v : Bool) (hE : plV k1 p1 us = V ∧ kbB k1 p1 us = v) :
    Calls Try.prog 38 #[.agg #[.int .i64 k1, .int .i64 p1, .slice A1 us.length c1]] w fun e w' => e = .returned (.tuple #[.int .i64 V, .bool v]) ∧ Below w.heap.size w w' := by
  obtain ⟨rfl, rfl⟩ := hE
  exact iPagesLeft_any k1 p1 us A1 c1 w hr hl
theorem iNeededPages_v (n : Nat) (w : World) (h : n ≤ 60) (V : Int) (hV : ndP (n : Int) = V) : Calls Try.prog 39 #[.int .i64 (n : Int)] w fun e w' => e = .returned (.tuple #[.int .i64 V, .bool true]) ∧ w = w' := by
  subst hV
  have h1 : (0 : Int) ≤ (n : Int) := by omega
  have h2 : (n : Int) ≤ 60 := by omega
  have h3 : IntKind.i64.wrap ((n : Int) + 20) = (n : Int) + 20 := IntWalk.i64_in _ (by omega)
  have h3' : wrap64 ((n : Int) + 20) = (n : Int) + 20 := IntWalk.wrap64_in _ (by omega)
  have h4 : wrap64 ((n : Int) + 20 - 1) = (n : Int) + 20 - 1 := IntWalk.wrap64_in _ (by omega)
  have h5 : ((n : Int) + 20 - 1).tdiv 20 = ((n : Int) + 20 - 1) / 20 := by rw [Int.tdiv_eq_ediv_of_nonneg (by omega)]
  have h6 : wrap64 (((n : Int) + 20 - 1) / 20) = ((n : Int) + 20 - 1) / 20 := IntWalk.wrap64_in _ (by omega)
  go_enter Try.func39, Try.ntmps39
  go_wp2
  go_ret2
  exact ⟨rfl, rfl⟩
theorem iIsSecret_x (y : List Int) (A2 : Option Addr) (c2 : Nat) (z : List Int) (A3 : Option Addr) (c3 : Nat) {l h l' h' : Nat} (w : World) (r20 : Rd w l h A2 y) (r30 : Rd w l' h' A3 z) (hl2 : y.length ≤ 1048576) (hl3 : z.length ≤ 1048576) (v : Bool) (hv : scB y z = v) :
    Calls Try.prog 40 #[.agg #[.slice A2 y.length c2, .slice A3 z.length c3]] w fun e w' => e = .returned (.bool v) ∧ Below w.heap.size w w' := by
  subst hv
  exact iIsSecret_any y A2 c2 z A3 c3 w r20 r30 hl2 hl3
set_option maxRecDepth 100000 in
set_option maxHeartbeats 16000000 in
theorem fnSecretMessages_walk (A1 A2 : Option Addr) (n1 c1 n2 c2 : Nat) (w : World) (h1 : n1 ≤ c1) (h2 : n2 ≤ c2) (m1 : n1 ≤ 9223372036854775807) (m2 : n2 ≤ 9223372036854775807) (hcd1 : CodeAt w w.heap.size A1 n1) (hcd2 : CodeAt w w.heap.size A2 n2) :
    Calls Try.prog 5 #[.slice A1 n1 c1, .slice A2 n2 c2] w fun e w' => e = .returned (.bool true) ∧ Below w.heap.size w w' := by
  go_enter Try.func5, Try.ntmps5
  obtain ⟨z, hz⟩ : ∃ z, wrap64 ((n1 : Int) + (n2 : Int)) = z := ⟨_, rfl⟩
  by_cases hbig : (1048576 : Int) < z
  · go_wp2_with fail
    go_ret
    exact ⟨rfl, Below.refl _ _⟩
  · go_wp2_with fail
    clear hz hbig
    have hB := Below.refl w.heap.size w
    have hcd := hcd2
    (with_reducible refine (drawHideMessage_any A1 n1 c1 _ hcd1 m1 h1).mono ?_)
    rintro e w1 ⟨ky, pg, us, zs, A, c, B, d, rfl, ⟨hus, hzs, hzd⟩, ru, rz, b1⟩
    have s1 : w.heap.size ≤ w1.heap.size := b1.size
    replace hB := hB.trans (Below.mono b1 hB.size)
    replace hcd := hcd.st b1
    clear b1
    clear hcd1
    replace ru := ru.std
    replace rz := rz.std
    obtain ⟨K, hK⟩ : ∃ u, hmK ky pg us zs = u := ⟨_, rfl⟩
    obtain ⟨G, hG⟩ : ∃ u, hmG ky pg us zs = u := ⟨_, rfl⟩
    obtain ⟨L, hL⟩ : ∃ u, hmL ky pg us zs = u := ⟨_, rfl⟩
    obtain ⟨P, hP⟩ : ∃ u, hmP ky pg us zs = u := ⟨_, rfl⟩
    obtain ⟨S, hS⟩ : ∃ u, hmS ky pg us zs = u := ⟨_, rfl⟩
    obtain ⟨v1, hv1⟩ : ∃ u, hmB ky pg us zs = u := ⟨_, rfl⟩
    have hE := Lib.hid (And.intro hK (And.intro hG (And.intro hL (And.intro hP (And.intro hS hv1)))))
    clear hK hG hL hP hS hv1
    go_wp2_with fail
    obtain ⟨w2, hw2⟩ : ∃ u, u = w1.alloc (.cells #[.int .i64 ky, .int .i64 pg, .slice A us.length c] 52) := ⟨_, rfl⟩
    rw [← hw2]
    have e2 : w2.heap.size = w1.heap.size + 1 := by rw [hw2]; simp
    have s2 : w1.heap.size + 1 ≤ w2.heap.size := by omega
    have b2 : Below w1.heap.size w1 w2 := by rw [hw2]; exact (Below.refl _ _).alloc (Nat.le_refl _) _
    have k5 : Bk w2 (w1.heap.size) 52 #[.int .i64 ky, .int .i64 pg, .slice A us.length c] := by rw [hw2]; exact Bk.new _ _ _
    replace hB := hB.trans (Below.mono b2 hB.size)
    replace hcd := hcd.st b2
    replace ru := ru.st b2
    replace rz := rz.st b2
    replace e2 := Lib.hid e2
    clear b2 hw2
    (with_reducible refine (iHideMessage_w ky pg us A c zs B d _ ru rz (by omega) (by omega) K G L P S v1 hE.out).mono ?_)
    rintro e w3 ⟨A7, c7, B8, d8, C8, m8, rfl, r7, q8, t8, ⟨nL, nP, nS⟩, b3⟩
    have s3 : w2.heap.size ≤ w3.heap.size := b3.size
    replace hB := hB.trans (Below.mono b3 hB.size)
    replace hcd := hcd.st b3
    replace ru := ru.st b3
    replace rz := rz.st b3
    replace k5 := k5.st b3
    clear b3
    have xl := k5.lt
    have x0 := k5.cell 0
    have x1 := k5.cell 1
    have x2 := k5.cell 2
    simp at x0 x1 x2
    go_wp2_with fail
    clear xl x0 x1 x2
    obtain ⟨w4, hw4⟩ : ∃ u, u = w3.alloc (.cells #[.int .i64 K, .int .i64 G, .slice A7 L.length c7] 52) := ⟨_, rfl⟩
    rw [← hw4]
    have e4 : w4.heap.size = w3.heap.size + 1 := by rw [hw4]; simp
    have s4 : w3.heap.size + 1 ≤ w4.heap.size := by omega
    have b4 : Below w3.heap.size w3 w4 := by rw [hw4]; exact (Below.refl _ _).alloc (Nat.le_refl _) _
    have k7 : Bk w4 (w3.heap.size) 52 #[.int .i64 K, .int .i64 G, .slice A7 L.length c7] := by rw [hw4]; exact Bk.new _ _ _
    replace hB := hB.trans (Below.mono b4 hB.size)
    replace hcd := hcd.st b4
    replace ru := ru.st b4
    replace rz := rz.st b4
    replace k5 := k5.st b4
    replace r7 := r7.st b4
    replace q8 := q8.st b4
    replace t8 := t8.st b4
    replace e4 := Lib.hid e4
    clear b4 hw4
    obtain ⟨w5, hw5⟩ : ∃ u, u = w4.alloc (.cells #[.slice B8 P.length d8, .slice C8 S.length m8] 56) := ⟨_, rfl⟩
    rw [← hw5]
    have e5 : w5.heap.size = w4.heap.size + 1 := by rw [hw5]; simp
    have s5 : w4.heap.size + 1 ≤ w5.heap.size := by omega
    have b5 : Below w4.heap.size w4 w5 := by rw [hw5]; exact (Below.refl _ _).alloc (Nat.le_refl _) _
    have a5 : w4.heap.size = w3.heap.size + 1 := by have h0 := e2.out; have h1 := e4.out; omega
    have k8 : Bk w5 (w3.heap.size + 1) 56 #[.slice B8 P.length d8, .slice C8 S.length m8] := by rw [← a5]; rw [hw5]; exact Bk.new _ _ _
    replace hB := hB.trans (Below.mono b5 hB.size)
    replace hcd := hcd.st b5
    replace ru := ru.st b5
    replace rz := rz.st b5
    replace k5 := k5.st b5
    replace r7 := r7.st b5
    replace q8 := q8.st b5
    replace t8 := t8.st b5
    replace k7 := k7.st b5
    replace e5 := Lib.hid e5
    clear b5 hw5 a5
    (with_reducible refine (sHideMessage_w ky pg us A c zs B d _ ru rz (by omega) (by omega) hzd K G L P S v1 hE.out).mono ?_)
    rintro e w6 ⟨A10, c10, B11, d11, C11, m11, rfl, r10, q11, t11, -, b6⟩
    have s6 : w5.heap.size ≤ w6.heap.size := b6.size
    replace hB := hB.trans (Below.mono b6 hB.size)
    replace hcd := hcd.st b6
    replace ru := ru.st b6
    replace rz := rz.st b6
    replace k5 := k5.st b6
    replace r7 := r7.st b6
    replace q8 := q8.st b6
    replace t8 := t8.st b6
    replace k7 := k7.st b6
    replace k8 := k8.st b6
    clear b6
    go_wp2_with fail
    obtain ⟨w7, hw7⟩ : ∃ u, u = w6.alloc (.cells #[.int .i64 K, .int .i64 G, .slice A10 L.length c10] 52) := ⟨_, rfl⟩
    rw [← hw7]
    have e7 : w7.heap.size = w6.heap.size + 1 := by rw [hw7]; simp
    have s7 : w6.heap.size + 1 ≤ w7.heap.size := by omega
    have b7 : Below w6.heap.size w6 w7 := by rw [hw7]; exact (Below.refl _ _).alloc (Nat.le_refl _) _
    have k10 : Bk w7 (w6.heap.size) 52 #[.int .i64 K, .int .i64 G, .slice A10 L.length c10] := by rw [hw7]; exact Bk.new _ _ _
    replace hB := hB.trans (Below.mono b7 hB.size)
    replace hcd := hcd.st b7
    replace ru := ru.st b7
    replace rz := rz.st b7
    replace k5 := k5.st b7
    replace r7 := r7.st b7
    replace q8 := q8.st b7
    replace t8 := t8.st b7
    replace k7 := k7.st b7
    replace k8 := k8.st b7
    replace r10 := r10.st b7
    replace q11 := q11.st b7
    replace t11 := t11.st b7
    replace e7 := Lib.hid e7
    clear b7 hw7
    obtain ⟨w8, hw8⟩ : ∃ u, u = w7.alloc (.cells #[.slice B11 P.length d11, .slice C11 S.length m11] 56) := ⟨_, rfl⟩
    rw [← hw8]
    have e8 : w8.heap.size = w7.heap.size + 1 := by rw [hw8]; simp
    have s8 : w7.heap.size + 1 ≤ w8.heap.size := by omega
    have b8 : Below w7.heap.size w7 w8 := by rw [hw8]; exact (Below.refl _ _).alloc (Nat.le_refl _) _
    have a8 : w7.heap.size = w6.heap.size + 1 := by have h0 := e4.out; have h1 := e5.out; have h2 := e7.out; omega
    have k11 : Bk w8 (w6.heap.size + 1) 56 #[.slice B11 P.length d11, .slice C11 S.length m11] := by rw [← a8]; rw [hw8]; exact Bk.new _ _ _
    replace hB := hB.trans (Below.mono b8 hB.size)
    replace hcd := hcd.st b8
    replace ru := ru.st b8
    replace rz := rz.st b8
    replace k5 := k5.st b8
    replace r7 := r7.st b8
    replace q8 := q8.st b8
    replace t8 := t8.st b8
    replace k7 := k7.st b8
    replace k8 := k8.st b8
    replace r10 := r10.st b8
    replace q11 := q11.st b8
    replace t11 := t11.st b8
    replace k10 := k10.st b8
    replace e8 := Lib.hid e8
    clear b8 hw8 a8
    (with_reducible refine (drawReceiveSecret_any A2 n2 c2 _ hcd m2 h2).mono ?_)
    rintro e w9 ⟨ky2, pg2, us2, P2, S2, A13, c13, B14, d14, C14, m14, rfl, ⟨g1, g2, g3, g4, g5, -, -⟩, -, ru2, rp2, rs2, b9⟩
    have s9 : w8.heap.size ≤ w9.heap.size := b9.size
    replace hB := hB.trans (Below.mono b9 hB.size)
    replace hcd := hcd.st b9
    replace ru := ru.st b9
    replace rz := rz.st b9
    replace k5 := k5.st b9
    replace r7 := r7.st b9
    replace q8 := q8.st b9
    replace t8 := t8.st b9
    replace k7 := k7.st b9
    replace k8 := k8.st b9
    replace r10 := r10.st b9
    replace q11 := q11.st b9
    replace t11 := t11.st b9
    replace k10 := k10.st b9
    replace k11 := k11.st b9
    clear b9
    clear hcd
    replace ru2 := ru2.std
    replace rp2 := rp2.std
    replace rs2 := rs2.std
    obtain ⟨K2, hK2⟩ : ∃ u, rsK ky2 pg2 us2 P2 S2 = u := ⟨_, rfl⟩
    obtain ⟨G2, hG2⟩ : ∃ u, rsG ky2 pg2 us2 P2 S2 = u := ⟨_, rfl⟩
    obtain ⟨L2, hL2⟩ : ∃ u, rsL ky2 pg2 us2 P2 S2 = u := ⟨_, rfl⟩
    obtain ⟨O2, hO2⟩ : ∃ u, rsS ky2 pg2 us2 P2 S2 = u := ⟨_, rfl⟩
    obtain ⟨v2, hv2⟩ : ∃ u, rsB ky2 pg2 us2 P2 S2 = u := ⟨_, rfl⟩
    have hE2 := Lib.hid (And.intro hK2 (And.intro hG2 (And.intro hL2 (And.intro hO2 hv2))))
    clear hK2 hG2 hL2 hO2 hv2
    obtain ⟨O3, hO3⟩ : ∃ u, osL ky2 pg2 us2 P2 S2 = u := ⟨_, rfl⟩
    obtain ⟨v3, hv3⟩ : ∃ u, osB ky2 pg2 us2 P2 S2 = u := ⟨_, rfl⟩
    have hE3 := Lib.hid (And.intro hO3 hv3)
    clear hO3 hv3
    go_wp2_with fail
    obtain ⟨w10, hw10⟩ : ∃ u, u = w9.alloc (.cells #[.int .i64 ky2, .int .i64 pg2, .slice A13 us2.length c13] 52) := ⟨_, rfl⟩
    rw [← hw10]
    have e10 : w10.heap.size = w9.heap.size + 1 := by rw [hw10]; simp
    have s10 : w9.heap.size + 1 ≤ w10.heap.size := by omega
    have b10 : Below w9.heap.size w9 w10 := by rw [hw10]; exact (Below.refl _ _).alloc (Nat.le_refl _) _
    have k13 : Bk w10 (w9.heap.size) 52 #[.int .i64 ky2, .int .i64 pg2, .slice A13 us2.length c13] := by rw [hw10]; exact Bk.new _ _ _
    replace hB := hB.trans (Below.mono b10 hB.size)
    replace ru := ru.st b10
    replace rz := rz.st b10
    replace k5 := k5.st b10
    replace r7 := r7.st b10
    replace q8 := q8.st b10
    replace t8 := t8.st b10
    replace k7 := k7.st b10
    replace k8 := k8.st b10
    replace r10 := r10.st b10
    replace q11 := q11.st b10
    replace t11 := t11.st b10
    replace k10 := k10.st b10
    replace k11 := k11.st b10
    replace ru2 := ru2.st b10
    replace rp2 := rp2.st b10
    replace rs2 := rs2.st b10
    replace e10 := Lib.hid e10
    clear b10 hw10
    obtain ⟨w11, hw11⟩ : ∃ u, u = w10.alloc (.cells #[.slice B14 P2.length d14, .slice C14 S2.length m14] 56) := ⟨_, rfl⟩
    rw [← hw11]
    have e11 : w11.heap.size = w10.heap.size + 1 := by rw [hw11]; simp
    have s11 : w10.heap.size + 1 ≤ w11.heap.size := by omega
    have b11 : Below w10.heap.size w10 w11 := by rw [hw11]; exact (Below.refl _ _).alloc (Nat.le_refl _) _
    have a11 : w10.heap.size = w9.heap.size + 1 := by have h0 := e7.out; have h1 := e8.out; have h2 := e10.out; omega
    have k14 : Bk w11 (w9.heap.size + 1) 56 #[.slice B14 P2.length d14, .slice C14 S2.length m14] := by rw [← a11]; rw [hw11]; exact Bk.new _ _ _
    replace hB := hB.trans (Below.mono b11 hB.size)
    replace ru := ru.st b11
    replace rz := rz.st b11
    replace k5 := k5.st b11
    replace r7 := r7.st b11
    replace q8 := q8.st b11
    replace t8 := t8.st b11
    replace k7 := k7.st b11
    replace k8 := k8.st b11
    replace r10 := r10.st b11
    replace q11 := q11.st b11
    replace t11 := t11.st b11
    replace k10 := k10.st b11
    replace k11 := k11.st b11
    replace ru2 := ru2.st b11
    replace rp2 := rp2.st b11
    replace rs2 := rs2.st b11
    replace k13 := k13.st b11
    replace e11 := Lib.hid e11
    clear b11 hw11 a11
    (with_reducible refine (iReceiveSecret_w ky2 pg2 us2 A13 c13 P2 B14 d14 S2 C14 m14 _ ru2 rp2 rs2 (by omega) (by omega) (by omega) K2 G2 L2 O2 v2 hE2.out).mono ?_)
    rintro e w12 ⟨A15, c15, B16, d16, rfl, r15, r16, ⟨nL2, nO2⟩, b12⟩
    have s12 : w11.heap.size ≤ w12.heap.size := b12.size
    replace hB := hB.trans (Below.mono b12 hB.size)
    replace ru := ru.st b12
    replace rz := rz.st b12
    replace k5 := k5.st b12
    replace r7 := r7.st b12
    replace q8 := q8.st b12
    replace t8 := t8.st b12
    replace k7 := k7.st b12
    replace k8 := k8.st b12
    replace r10 := r10.st b12
    replace q11 := q11.st b12
    replace t11 := t11.st b12
    replace k10 := k10.st b12
    replace k11 := k11.st b12
    replace ru2 := ru2.st b12
    replace rp2 := rp2.st b12
    replace rs2 := rs2.st b12
    replace k13 := k13.st b12
    replace k14 := k14.st b12
    clear b12
    have xl := k13.lt
    have x0 := k13.cell 0
    have x1 := k13.cell 1
    have x2 := k13.cell 2
    simp at x0 x1 x2
    have yl := k14.lt
    have y0 := k14.cell 0
    have y1 := k14.cell 1
    simp at y0 y1
    go_wp2_with fail
    clear xl x0 x1 x2 yl y0 y1
    obtain ⟨w13, hw13⟩ : ∃ u, u = w12.alloc (.cells #[.int .i64 K2, .int .i64 G2, .slice A15 L2.length c15] 52) := ⟨_, rfl⟩
    rw [← hw13]
    have e13 : w13.heap.size = w12.heap.size + 1 := by rw [hw13]; simp
    have s13 : w12.heap.size + 1 ≤ w13.heap.size := by omega
    have b13 : Below w12.heap.size w12 w13 := by rw [hw13]; exact (Below.refl _ _).alloc (Nat.le_refl _) _
    have k15 : Bk w13 (w12.heap.size) 52 #[.int .i64 K2, .int .i64 G2, .slice A15 L2.length c15] := by rw [hw13]; exact Bk.new _ _ _
    replace hB := hB.trans (Below.mono b13 hB.size)
    replace ru := ru.st b13
    replace rz := rz.st b13
    replace k5 := k5.st b13
    replace r7 := r7.st b13
    replace q8 := q8.st b13
    replace t8 := t8.st b13
    replace k7 := k7.st b13
    replace k8 := k8.st b13
    replace r10 := r10.st b13
    replace q11 := q11.st b13
    replace t11 := t11.st b13
    replace k10 := k10.st b13
    replace k11 := k11.st b13
    replace ru2 := ru2.st b13
    replace rp2 := rp2.st b13
    replace rs2 := rs2.st b13
    replace k13 := k13.st b13
    replace k14 := k14.st b13
    replace r15 := r15.st b13
    replace r16 := r16.st b13
    replace e13 := Lib.hid e13
    clear b13 hw13
    (with_reducible refine (sReceiveSecret_w ky2 pg2 us2 A13 c13 P2 B14 d14 S2 C14 m14 _ ru2 rp2 rs2 (by omega) (by omega) (by omega) g4 g5 K2 G2 L2 O2 v2 hE2.out).mono ?_)
    rintro e w14 ⟨A18, c18, B19, d19, rfl, r18, r19, -, b14⟩
    have s14 : w13.heap.size ≤ w14.heap.size := b14.size
    replace hB := hB.trans (Below.mono b14 hB.size)
    replace ru := ru.st b14
    replace rz := rz.st b14
    replace k5 := k5.st b14
    replace r7 := r7.st b14
    replace q8 := q8.st b14
    replace t8 := t8.st b14
    replace k7 := k7.st b14
    replace k8 := k8.st b14
    replace r10 := r10.st b14
    replace q11 := q11.st b14
    replace t11 := t11.st b14
    replace k10 := k10.st b14
    replace k11 := k11.st b14
    replace ru2 := ru2.st b14
    replace rp2 := rp2.st b14
    replace rs2 := rs2.st b14
    replace k13 := k13.st b14
    replace k14 := k14.st b14
    replace r15 := r15.st b14
    replace r16 := r16.st b14
    replace k15 := k15.st b14
    clear b14
    have xl := k13.lt
    have x0 := k13.cell 0
    have x1 := k13.cell 1
    have x2 := k13.cell 2
    simp at x0 x1 x2
    have yl := k14.lt
    have y0 := k14.cell 0
    have y1 := k14.cell 1
    simp at y0 y1
    go_wp2_with fail
    clear xl x0 x1 x2 yl y0 y1
    obtain ⟨w15, hw15⟩ : ∃ u, u = w14.alloc (.cells #[.int .i64 K2, .int .i64 G2, .slice A18 L2.length c18] 52) := ⟨_, rfl⟩
    rw [← hw15]
    have e15 : w15.heap.size = w14.heap.size + 1 := by rw [hw15]; simp
    have s15 : w14.heap.size + 1 ≤ w15.heap.size := by omega
    have b15 : Below w14.heap.size w14 w15 := by rw [hw15]; exact (Below.refl _ _).alloc (Nat.le_refl _) _
    have k18 : Bk w15 (w14.heap.size) 52 #[.int .i64 K2, .int .i64 G2, .slice A18 L2.length c18] := by rw [hw15]; exact Bk.new _ _ _
    replace hB := hB.trans (Below.mono b15 hB.size)
    replace ru := ru.st b15
    replace rz := rz.st b15
    replace k5 := k5.st b15
    replace r7 := r7.st b15
    replace q8 := q8.st b15
    replace t8 := t8.st b15
    replace k7 := k7.st b15
    replace k8 := k8.st b15
    replace r10 := r10.st b15
    replace q11 := q11.st b15
    replace t11 := t11.st b15
    replace k10 := k10.st b15
    replace k11 := k11.st b15
    replace ru2 := ru2.st b15
    replace rp2 := rp2.st b15
    replace rs2 := rs2.st b15
    replace k13 := k13.st b15
    replace k14 := k14.st b15
    replace r15 := r15.st b15
    replace r16 := r16.st b15
    replace k15 := k15.st b15
    replace r18 := r18.st b15
    replace r19 := r19.st b15
    replace e15 := Lib.hid e15
    clear b15 hw15
    (with_reducible refine (iOpenSecret_w ky2 pg2 us2 A13 c13 P2 B14 d14 S2 C14 m14 _ ru2 rp2 rs2 (by omega) (by omega) (by omega) O3 v3 hE3.out).mono ?_)
    rintro e w16 ⟨B21, d21, rfl, r21, nO3, b16⟩
    have s16 : w15.heap.size ≤ w16.heap.size := b16.size
    replace hB := hB.trans (Below.mono b16 hB.size)
    replace ru := ru.st b16
    replace rz := rz.st b16
    replace k5 := k5.st b16
    replace r7 := r7.st b16
    replace q8 := q8.st b16
    replace t8 := t8.st b16
    replace k7 := k7.st b16
    replace k8 := k8.st b16
    replace r10 := r10.st b16
    replace q11 := q11.st b16
    replace t11 := t11.st b16
    replace k10 := k10.st b16
    replace k11 := k11.st b16
    replace ru2 := ru2.st b16
    replace rp2 := rp2.st b16
    replace rs2 := rs2.st b16
    replace k13 := k13.st b16
    replace k14 := k14.st b16
    replace r15 := r15.st b16
    replace r16 := r16.st b16
    replace k15 := k15.st b16
    replace r18 := r18.st b16
    replace r19 := r19.st b16
    replace k18 := k18.st b16
    clear b16
    have xl := k13.lt
    have x0 := k13.cell 0
    have x1 := k13.cell 1
    have x2 := k13.cell 2
    simp at x0 x1 x2
    have yl := k14.lt
    have y0 := k14.cell 0
    have y1 := k14.cell 1
    simp at y0 y1
    go_wp2_with fail
    clear xl x0 x1 x2 yl y0 y1
    (with_reducible refine (sOpenSecret_w ky2 pg2 us2 A13 c13 P2 B14 d14 S2 C14 m14 _ ru2 rp2 rs2 (by omega) (by omega) (by omega) g4 g5 O3 v3 hE3.out).mono ?_)
    rintro e w17 ⟨B23, d23, rfl, r23, -, b17⟩
    have s17 : w16.heap.size ≤ w17.heap.size := b17.size
    replace hB := hB.trans (Below.mono b17 hB.size)
    replace ru := ru.st b17
    replace rz := rz.st b17
    replace k5 := k5.st b17
    replace r7 := r7.st b17
    replace q8 := q8.st b17
    replace t8 := t8.st b17
    replace k7 := k7.st b17
    replace k8 := k8.st b17
    replace r10 := r10.st b17
    replace q11 := q11.st b17
    replace t11 := t11.st b17
    replace k10 := k10.st b17
    replace k11 := k11.st b17
    replace ru2 := ru2.st b17
    replace rp2 := rp2.st b17
    replace rs2 := rs2.st b17
    replace k13 := k13.st b17
    replace k14 := k14.st b17
    replace r15 := r15.st b17
    replace r16 := r16.st b17
    replace k15 := k15.st b17
    replace r18 := r18.st b17
    replace r19 := r19.st b17
    replace k18 := k18.st b17
    replace r21 := r21.st b17
    clear b17
    go_upto_region 11 with fail
    go_cut [152] (fun s6 wq => s6 = .bool false ∧ Below w.heap.size w wq ∧ Bk wq (w1.heap.size) 52 #[.int .i64 ky, .int .i64 pg, .slice A us.length c] ∧ Bk wq (w3.heap.size + 1) 56 #[.slice B8 P.length d8, .slice C8 S.length m8] ∧ Bk wq (w6.heap.size) 52 #[.int .i64 K, .int .i64 G, .slice A10 L.length c10] ∧ Bk wq (w6.heap.size + 1) 56 #[.slice B11 P.length d11, .slice C11 S.length m11] ∧ Rd wq 0 wq.heap.size A us ∧ Rd wq 0 wq.heap.size B zs ∧ Rd wq 0 wq.heap.size B8 P ∧ Rd wq 0 wq.heap.size C8 S ∧ Rd wq 0 wq.heap.size A10 L ∧ Rd wq 0 wq.heap.size B11 P ∧ Bk wq (w9.heap.size) 52 #[.int .i64 ky2, .int .i64 pg2, .slice A13 us2.length c13] ∧ Bk wq (w9.heap.size + 1) 56 #[.slice B14 P2.length d14, .slice C14 S2.length m14] ∧ Bk wq (w12.heap.size) 52 #[.int .i64 K2, .int .i64 G2, .slice A15 L2.length c15] ∧ Rd wq 0 wq.heap.size A13 us2 ∧ Rd wq 0 wq.heap.size B14 P2 ∧ Rd wq 0 wq.heap.size C14 S2 ∧ Rd wq 0 wq.heap.size A15 L2)
    case first =>
      as_aux_lemma =>
        have xl := k7.lt
        have x0 := k7.cell 0
        have x1 := k7.cell 1
        have x2 := k7.cell 2
        simp at x0 x1 x2
        have yl := k10.lt
        have y0 := k10.cell 0
        have y1 := k10.cell 1
        have y2 := k10.cell 2
        simp at y0 y1 y2
        go_wp2_with fail
        clear xl x0 x1 x2 yl y0 y1 y2
        (with_reducible refine (qKeys_t K G L A7 A10 L.length L.length c7 c10 _ rfl rfl r7 r10 nL).mono ?_)
        rintro e w18 ⟨rfl, b18⟩
        have s18 : w17.heap.size ≤ w18.heap.size := b18.size
        replace hB := hB.trans (Below.mono b18 hB.size)
        replace ru := ru.st b18
        replace rz := rz.st b18
        replace k5 := k5.st b18
        replace r7 := r7.st b18
        replace q8 := q8.st b18
        replace t8 := t8.st b18
        replace k7 := k7.st b18
        replace k8 := k8.st b18
        replace r10 := r10.st b18
        replace q11 := q11.st b18
        replace t11 := t11.st b18
        replace k10 := k10.st b18
        replace k11 := k11.st b18
        replace ru2 := ru2.st b18
        replace rp2 := rp2.st b18
        replace rs2 := rs2.st b18
        replace k13 := k13.st b18
        replace k14 := k14.st b18
        replace r15 := r15.st b18
        replace r16 := r16.st b18
        replace k15 := k15.st b18
        replace r18 := r18.st b18
        replace r19 := r19.st b18
        replace k18 := k18.st b18
        replace r21 := r21.st b18
        replace r23 := r23.st b18
        clear b18
        clear r7 k7
        have xl := k8.lt
        have x0 := k8.cell 0
        have x1 := k8.cell 1
        simp at x0 x1
        have yl := k11.lt
        have y0 := k11.cell 0
        have y1 := k11.cell 1
        simp at y0 y1
        go_wp2_with fail
        clear xl x0 x1 yl y0 y1
        (with_reducible refine (qSecret_t P S B8 B11 C8 C11 P.length P.length S.length S.length d8 d11 m8 m11 _ rfl rfl rfl rfl q8 q11 t8 t11 nP nS).mono ?_)
        rintro e w19 ⟨rfl, b19⟩
        have s19 : w18.heap.size ≤ w19.heap.size := b19.size
        replace hB := hB.trans (Below.mono b19 hB.size)
        replace ru := ru.st b19
        replace rz := rz.st b19
        replace k5 := k5.st b19
        replace q8 := q8.st b19
        replace t8 := t8.st b19
        replace k8 := k8.st b19
        replace r10 := r10.st b19
        replace q11 := q11.st b19
        replace t11 := t11.st b19
        replace k10 := k10.st b19
        replace k11 := k11.st b19
        replace ru2 := ru2.st b19
        replace rp2 := rp2.st b19
        replace rs2 := rs2.st b19
        replace k13 := k13.st b19
        replace k14 := k14.st b19
        replace r15 := r15.st b19
        replace r16 := r16.st b19
        replace k15 := k15.st b19
        replace r18 := r18.st b19
        replace r19 := r19.st b19
        replace k18 := k18.st b19
        replace r21 := r21.st b19
        replace r23 := r23.st b19
        clear b19
        clear t11
        have xl := k15.lt
        have x0 := k15.cell 0
        have x1 := k15.cell 1
        have x2 := k15.cell 2
        simp at x0 x1 x2
        have yl := k18.lt
        have y0 := k18.cell 0
        have y1 := k18.cell 1
        have y2 := k18.cell 2
        simp at y0 y1 y2
        go_wp2_with fail
        clear xl x0 x1 x2 yl y0 y1 y2
        (with_reducible refine (qKeys_t K2 G2 L2 A15 A18 L2.length L2.length c15 c18 _ rfl rfl r15 r18 nL2).mono ?_)
        rintro e w20 ⟨rfl, b20⟩
        have s20 : w19.heap.size ≤ w20.heap.size := b20.size
        replace hB := hB.trans (Below.mono b20 hB.size)
        replace ru := ru.st b20
        replace rz := rz.st b20
        replace k5 := k5.st b20
        replace q8 := q8.st b20
        replace t8 := t8.st b20
        replace k8 := k8.st b20
        replace r10 := r10.st b20
        replace q11 := q11.st b20
        replace k10 := k10.st b20
        replace k11 := k11.st b20
        replace ru2 := ru2.st b20
        replace rp2 := rp2.st b20
        replace rs2 := rs2.st b20
        replace k13 := k13.st b20
        replace k14 := k14.st b20
        replace r15 := r15.st b20
        replace r16 := r16.st b20
        replace k15 := k15.st b20
        replace r18 := r18.st b20
        replace r19 := r19.st b20
        replace k18 := k18.st b20
        replace r21 := r21.st b20
        replace r23 := r23.st b20
        clear b20
        clear r18 k18
        go_wp2_with fail
        (with_reducible refine (qInts_t O2 B16 B19 O2.length O2.length d16 d19 _ rfl rfl r16 r19 nO2).mono ?_)
        rintro e w21 ⟨rfl, b21⟩
        have s21 : w20.heap.size ≤ w21.heap.size := b21.size
        replace hB := hB.trans (Below.mono b21 hB.size)
        replace ru := ru.st b21
        replace rz := rz.st b21
        replace k5 := k5.st b21
        replace q8 := q8.st b21
        replace t8 := t8.st b21
        replace k8 := k8.st b21
        replace r10 := r10.st b21
        replace q11 := q11.st b21
        replace k10 := k10.st b21
        replace k11 := k11.st b21
        replace ru2 := ru2.st b21
        replace rp2 := rp2.st b21
        replace rs2 := rs2.st b21
        replace k13 := k13.st b21
        replace k14 := k14.st b21
        replace r15 := r15.st b21
        replace r16 := r16.st b21
        replace k15 := k15.st b21
        replace r19 := r19.st b21
        replace r21 := r21.st b21
        replace r23 := r23.st b21
        clear b21
        clear r16
        go_wp2_with fail
        (with_reducible refine (qInts_t O3 B21 B23 O3.length O3.length d21 d23 _ rfl rfl r21 r23 nO3).mono ?_)
        rintro e w22 ⟨rfl, b22⟩
        have s22 : w21.heap.size ≤ w22.heap.size := b22.size
        replace hB := hB.trans (Below.mono b22 hB.size)
        replace ru := ru.st b22
        replace rz := rz.st b22
        replace k5 := k5.st b22
        replace q8 := q8.st b22
        replace t8 := t8.st b22
        replace k8 := k8.st b22
        replace r10 := r10.st b22
        replace q11 := q11.st b22
        replace k10 := k10.st b22
        replace k11 := k11.st b22
        replace ru2 := ru2.st b22
        replace rp2 := rp2.st b22
        replace rs2 := rs2.st b22
        replace k13 := k13.st b22
        replace k14 := k14.st b22
        replace r15 := r15.st b22
        replace k15 := k15.st b22
        replace r19 := r19.st b22
        replace r21 := r21.st b22
        replace r23 := r23.st b22
        clear b22
        clear r21
        have hv23 : Hid (v2 = true → v3 = true ∧ O3 = O2) := Lib.hid (fun h => by
          obtain ⟨-, -, -, -, -, -, a, b⟩ := sm_again hE2.out h
          exact ⟨by rw [← hE3.out.2]; exact a, by rw [← hE3.out.1]; exact b⟩)
        cases v2 with
        | false =>
          clear r19 r23
          replace ru := ru.std
          replace rz := rz.std
          replace q8 := q8.std
          replace t8 := t8.std
          replace r10 := r10.std
          replace q11 := q11.std
          replace ru2 := ru2.std
          replace rp2 := rp2.std
          replace rs2 := rs2.std
          replace r15 := r15.std
          have hall := Lib.hid (And.intro hB (And.intro k5 (And.intro k8 (And.intro k10 (And.intro k11 (And.intro ru (And.intro rz (And.intro q8 (And.intro t8 (And.intro r10 (And.intro q11 (And.intro k13 (And.intro k14 (And.intro k15 (And.intro ru2 (And.intro rp2 (And.intro rs2 r15)))))))))))))))))
          clear hB k5 k8 k10 k11 ru rz q8 t8 r10 q11 k13 k14 k15 ru2 rp2 rs2 r15
          go_wp2_with fail
          go_meet
          case rel => exact ⟨by first | rfl | simp, hall.out.1, hall.out.2.1, hall.out.2.2.1, hall.out.2.2.2.1, hall.out.2.2.2.2.1, hall.out.2.2.2.2.2.1, hall.out.2.2.2.2.2.2.1, hall.out.2.2.2.2.2.2.2.1, hall.out.2.2.2.2.2.2.2.2.1, hall.out.2.2.2.2.2.2.2.2.2.1, hall.out.2.2.2.2.2.2.2.2.2.2.1, hall.out.2.2.2.2.2.2.2.2.2.2.2.1, hall.out.2.2.2.2.2.2.2.2.2.2.2.2.1, hall.out.2.2.2.2.2.2.2.2.2.2.2.2.2.1, hall.out.2.2.2.2.2.2.2.2.2.2.2.2.2.2.1, hall.out.2.2.2.2.2.2.2.2.2.2.2.2.2.2.2.1, hall.out.2.2.2.2.2.2.2.2.2.2.2.2.2.2.2.2.1, hall.out.2.2.2.2.2.2.2.2.2.2.2.2.2.2.2.2.2⟩
        | true =>
          obtain ⟨rfl, rfl⟩ := hv23.out rfl
          go_wp2_with fail
          (with_reducible refine (qInts_t O3 B19 B23 O3.length O3.length d19 d23 _ rfl rfl r19 r23 nO3).mono ?_)
          rintro e w23 ⟨rfl, b23⟩
          have s23 : w22.heap.size ≤ w23.heap.size := b23.size
          replace hB := hB.trans (Below.mono b23 hB.size)
          replace ru := ru.st b23
          replace rz := rz.st b23
          replace k5 := k5.st b23
          replace q8 := q8.st b23
          replace t8 := t8.st b23
          replace k8 := k8.st b23
          replace r10 := r10.st b23
          replace q11 := q11.st b23
          replace k10 := k10.st b23
          replace k11 := k11.st b23
          replace ru2 := ru2.st b23
          replace rp2 := rp2.st b23
          replace rs2 := rs2.st b23
          replace k13 := k13.st b23
          replace k14 := k14.st b23
          replace r15 := r15.st b23
          replace k15 := k15.st b23
          replace r19 := r19.st b23
          replace r23 := r23.st b23
          clear b23
          clear r19 r23
          replace ru := ru.std
          replace rz := rz.std
          replace q8 := q8.std
          replace t8 := t8.std
          replace r10 := r10.std
          replace q11 := q11.std
          replace ru2 := ru2.std
          replace rp2 := rp2.std
          replace rs2 := rs2.std
          replace r15 := r15.std
          have hall := Lib.hid (And.intro hB (And.intro k5 (And.intro k8 (And.intro k10 (And.intro k11 (And.intro ru (And.intro rz (And.intro q8 (And.intro t8 (And.intro r10 (And.intro q11 (And.intro k13 (And.intro k14 (And.intro k15 (And.intro ru2 (And.intro rp2 (And.intro rs2 r15)))))))))))))))))
          clear hB k5 k8 k10 k11 ru rz q8 t8 r10 q11 k13 k14 k15 ru2 rp2 rs2 r15
          go_wp2_with fail
          go_meet
          case rel => exact ⟨by first | rfl | simp, hall.out.1, hall.out.2.1, hall.out.2.2.1, hall.out.2.2.2.1, hall.out.2.2.2.2.1, hall.out.2.2.2.2.2.1, hall.out.2.2.2.2.2.2.1, hall.out.2.2.2.2.2.2.2.1, hall.out.2.2.2.2.2.2.2.2.1, hall.out.2.2.2.2.2.2.2.2.2.1, hall.out.2.2.2.2.2.2.2.2.2.2.1, hall.out.2.2.2.2.2.2.2.2.2.2.2.1, hall.out.2.2.2.2.2.2.2.2.2.2.2.2.1, hall.out.2.2.2.2.2.2.2.2.2.2.2.2.2.1, hall.out.2.2.2.2.2.2.2.2.2.2.2.2.2.2.1, hall.out.2.2.2.2.2.2.2.2.2.2.2.2.2.2.2.1, hall.out.2.2.2.2.2.2.2.2.2.2.2.2.2.2.2.2.1, hall.out.2.2.2.2.2.2.2.2.2.2.2.2.2.2.2.2.2⟩
    case rest =>
      as_aux_lemma =>
        clear hB ru rz k5 r7 q8 t8 k7 k8 r10 q11 t11 k10 k11 ru2 rp2 rs2 k13 k14 r15 r16 k15 r18 r19 k18 r21 r23
        obtain ⟨rfl, hB, k5, k8, k10, k11, ru, rz, q8, t8, r10, q11, k13, k14, k15, ru2, rp2, rs2, r15⟩ := hcut
        obtain ⟨wa, rfl⟩ : ∃ u, u = wc := ⟨_, rfl⟩
        go_upto_if 153 with fail
        go_cut [] (fun wq => Below w.heap.size w wq ∧ Bk wq (w1.heap.size) 52 #[.int .i64 ky, .int .i64 pg, .slice A us.length c] ∧ Bk wq (w3.heap.size + 1) 56 #[.slice B8 P.length d8, .slice C8 S.length m8] ∧ Bk wq (w6.heap.size) 52 #[.int .i64 K, .int .i64 G, .slice A10 L.length c10] ∧ Bk wq (w6.heap.size + 1) 56 #[.slice B11 P.length d11, .slice C11 S.length m11] ∧ Rd wq 0 wq.heap.size A us ∧ Rd wq 0 wq.heap.size B zs ∧ Rd wq 0 wq.heap.size B8 P ∧ Rd wq 0 wq.heap.size C8 S ∧ Rd wq 0 wq.heap.size A10 L ∧ Rd wq 0 wq.heap.size B11 P)
        case first =>
          as_aux_lemma =>
            cases v2 with
            | false =>
              have hall := Lib.hid (And.intro hB (And.intro k5 (And.intro k8 (And.intro k10 (And.intro k11 (And.intro ru (And.intro rz (And.intro q8 (And.intro t8 (And.intro r10 q11))))))))))
              clear hB k5 k8 k10 k11 ru rz q8 t8 r10 q11
              go_wp2_with fail
              go_meet
              case rel => exact ⟨hall.out.1, hall.out.2.1, hall.out.2.2.1, hall.out.2.2.2.1, hall.out.2.2.2.2.1, hall.out.2.2.2.2.2.1, hall.out.2.2.2.2.2.2.1, hall.out.2.2.2.2.2.2.2.1, hall.out.2.2.2.2.2.2.2.2.1, hall.out.2.2.2.2.2.2.2.2.2.1, hall.out.2.2.2.2.2.2.2.2.2.2⟩
            | true =>
              obtain ⟨u1, u2, u3, u4, u5, u6, -, -⟩ := sm_again hE2.out rfl
              obtain ⟨V1, hV1⟩ : ∃ V, plV ky2 pg2 us2 = V := ⟨_, rfl⟩
              obtain ⟨V2, hV2⟩ : ∃ V, plV K2 G2 L2 = V := ⟨_, rfl⟩
              rw [hV1, hV2] at u4
              rw [hV1] at u5
              rw [hV2] at u6
              have hP1 := Lib.hid (And.intro hV1 u3)
              have hP2 := Lib.hid (And.intro hV2 u2)
              clear hV1 hV2 u2 u3
              obtain ⟨K4, hK4⟩ : ∃ u, rsK K2 G2 L2 P2 S2 = u := ⟨_, rfl⟩
              obtain ⟨G4, hG4⟩ : ∃ u, rsG K2 G2 L2 P2 S2 = u := ⟨_, rfl⟩
              obtain ⟨L4, hL4⟩ : ∃ u, rsL K2 G2 L2 P2 S2 = u := ⟨_, rfl⟩
              obtain ⟨O4, hO4⟩ : ∃ u, rsS K2 G2 L2 P2 S2 = u := ⟨_, rfl⟩
              obtain ⟨v4, hv4⟩ : ∃ u, rsB K2 G2 L2 P2 S2 = u := ⟨_, rfl⟩
              have hE4 := Lib.hid (And.intro hK4 (And.intro hG4 (And.intro hL4 (And.intro hO4 hv4))))
              clear hK4 hG4 hL4 hO4 hv4
              have hv4 : Hid (v4 = decide ((P2.length : Int) = 0)) := Lib.hid (by rw [← hE4.out.2.2.2.2]; exact u1)
              clear u1
              have xl := k15.lt
              have x0 := k15.cell 0
              have x1 := k15.cell 1
              have x2 := k15.cell 2
              simp at x0 x1 x2
              have yl := k14.lt
              have y0 := k14.cell 0
              have y1 := k14.cell 1
              simp at y0 y1
              go_wp2_with fail
              clear xl x0 x1 x2 yl y0 y1
              (with_reducible refine (iReceiveSecret_w K2 G2 L2 A15 c15 P2 B14 d14 S2 C14 m14 _ r15 rp2 rs2 nL2 (by omega) (by omega) K4 G4 L4 O4 v4 hE4.out).mono ?_)
              rintro e w24 ⟨A25, c25, B26, d26, rfl, -, -, -, b24⟩
              have s24 : wa.heap.size ≤ w24.heap.size := b24.size
              replace hB := hB.trans (Below.mono b24 hB.size)
              replace k5 := k5.st b24
              replace k8 := k8.st b24
              replace k10 := k10.st b24
              replace k11 := k11.st b24
              replace ru := ru.st b24
              replace rz := rz.st b24
              replace q8 := q8.st b24
              replace t8 := t8.st b24
              replace r10 := r10.st b24
              replace q11 := q11.st b24
              replace k13 := k13.st b24
              replace k14 := k14.st b24
              replace k15 := k15.st b24
              replace ru2 := ru2.st b24
              replace rp2 := rp2.st b24
              replace rs2 := rs2.st b24
              replace r15 := r15.st b24
              clear b24
              have xl := k15.lt
              have x0 := k15.cell 0
              have x1 := k15.cell 1
              have x2 := k15.cell 2
              simp at x0 x1 x2
              go_wp2_with fail
              clear xl x0 x1 x2
              obtain ⟨w25, hw25⟩ : ∃ u, u = w24.alloc (.cells #[.int .i64 K4, .int .i64 G4, .slice A25 L4.length c25] 52) := ⟨_, rfl⟩
              rw [← hw25]
              have e25 : w25.heap.size = w24.heap.size + 1 := by rw [hw25]; simp
              have s25 : w24.heap.size + 1 ≤ w25.heap.size := by omega
              have b25 : Below w24.heap.size w24 w25 := by rw [hw25]; exact (Below.refl _ _).alloc (Nat.le_refl _) _
              replace hB := hB.trans (Below.mono b25 hB.size)
              replace k5 := k5.st b25
              replace k8 := k8.st b25
              replace k10 := k10.st b25
              replace k11 := k11.st b25
              replace ru := ru.st b25
              replace rz := rz.st b25
              replace q8 := q8.st b25
              replace t8 := t8.st b25
              replace r10 := r10.st b25
              replace q11 := q11.st b25
              replace k13 := k13.st b25
              replace k14 := k14.st b25
              replace k15 := k15.st b25
              replace ru2 := ru2.st b25
              replace rp2 := rp2.st b25
              replace rs2 := rs2.st b25
              replace r15 := r15.st b25
              replace e25 := Lib.hid e25
              clear b25 hw25
              (with_reducible refine (iPagesLeft_w K2 G2 L2 A15 c15 _ r15 nL2 V2 true hP2.out).mono ?_)
              rintro e w26 ⟨rfl, b26⟩
              have s26 : w25.heap.size ≤ w26.heap.size := b26.size
              replace hB := hB.trans (Below.mono b26 hB.size)
              replace k5 := k5.st b26
              replace k8 := k8.st b26
              replace k10 := k10.st b26
              replace k11 := k11.st b26
              replace ru := ru.st b26
              replace rz := rz.st b26
              replace q8 := q8.st b26
              replace t8 := t8.st b26
              replace r10 := r10.st b26
              replace q11 := q11.st b26
              replace k13 := k13.st b26
              replace k14 := k14.st b26
              replace k15 := k15.st b26
              replace ru2 := ru2.st b26
              replace rp2 := rp2.st b26
              replace rs2 := rs2.st b26
              replace r15 := r15.st b26
              clear b26
              have xl := k13.lt
              have x0 := k13.cell 0
              have x1 := k13.cell 1
              have x2 := k13.cell 2
              simp at x0 x1 x2
              go_wp2_with fail
              clear xl x0 x1 x2
              (with_reducible refine (iPagesLeft_w ky2 pg2 us2 A13 c13 _ ru2 (by omega) V1 true hP1.out).mono ?_)
              rintro e w27 ⟨rfl, b27⟩
              have s27 : w26.heap.size ≤ w27.heap.size := b27.size
              replace hB := hB.trans (Below.mono b27 hB.size)
              replace k5 := k5.st b27
              replace k8 := k8.st b27
              replace k10 := k10.st b27
              replace k11 := k11.st b27
              replace ru := ru.st b27
              replace rz := rz.st b27
              replace q8 := q8.st b27
              replace t8 := t8.st b27
              replace r10 := r10.st b27
              replace q11 := q11.st b27
              replace k13 := k13.st b27
              replace k14 := k14.st b27
              replace k15 := k15.st b27
              replace ru2 := ru2.st b27
              replace rp2 := rp2.st b27
              replace rs2 := rs2.st b27
              replace r15 := r15.st b27
              clear b27
              have xl := k14.lt
              have x0 := k14.cell 0
              have x1 := k14.cell 1
              simp at x0 x1
              have e1 : wrap64 (V1 - V2) = (P2.length : Int) := by rw [u4]; exact IntWalk.wrap64_in _ (by omega)
              have e2 : IntKind.i64.wrap (V1 - V2) = (P2.length : Int) := by rw [u4]; exact IntWalk.i64_in _ (by omega)
              clear u4 u5 u6
              obtain ⟨nn, hnn⟩ : ∃ n, n = P2.length := ⟨_, rfl⟩
              have hv4b := hv4.out
              clear hv4
              rw [← hnn] at x0 e1 e2 hv4b
              clear hnn
              by_cases h0 : nn = 0
              · subst h0
                have hv5 : v4 = true := by rw [hv4b]; simp
                subst hv5
                clear hv4b
                replace ru := ru.std
                replace rz := rz.std
                replace q8 := q8.std
                replace t8 := t8.std
                replace r10 := r10.std
                replace q11 := q11.std
                have hall := Lib.hid (And.intro hB (And.intro k5 (And.intro k8 (And.intro k10 (And.intro k11 (And.intro ru (And.intro rz (And.intro q8 (And.intro t8 (And.intro r10 q11))))))))))
                clear hB k5 k8 k10 k11 ru rz q8 t8 r10 q11
                clear k13 k14 k15 ru2 rp2 rs2 r15
                go_wp2_with fail
                go_meet
                case rel => exact ⟨hall.out.1, hall.out.2.1, hall.out.2.2.1, hall.out.2.2.2.1, hall.out.2.2.2.2.1, hall.out.2.2.2.2.2.1, hall.out.2.2.2.2.2.2.1, hall.out.2.2.2.2.2.2.2.1, hall.out.2.2.2.2.2.2.2.2.1, hall.out.2.2.2.2.2.2.2.2.2.1, hall.out.2.2.2.2.2.2.2.2.2.2⟩
              · have h0b : ((nn : Int) == 0) = false := by simp; omega
                have hv5 : v4 = false := by rw [hv4b]; simp; omega
                subst hv5
                clear hv4b
                replace ru := ru.std
                replace rz := rz.std
                replace q8 := q8.std
                replace t8 := t8.std
                replace r10 := r10.std
                replace q11 := q11.std
                have hall := Lib.hid (And.intro hB (And.intro k5 (And.intro k8 (And.intro k10 (And.intro k11 (And.intro ru (And.intro rz (And.intro q8 (And.intro t8 (And.intro r10 q11))))))))))
                clear hB k5 k8 k10 k11 ru rz q8 t8 r10 q11
                clear k13 k14 k15 ru2 rp2 rs2 r15
                go_wp2_with fail
                go_meet
                case rel => exact ⟨hall.out.1, hall.out.2.1, hall.out.2.2.1, hall.out.2.2.2.1, hall.out.2.2.2.2.1, hall.out.2.2.2.2.2.1, hall.out.2.2.2.2.2.2.1, hall.out.2.2.2.2.2.2.2.1, hall.out.2.2.2.2.2.2.2.2.1, hall.out.2.2.2.2.2.2.2.2.2.1, hall.out.2.2.2.2.2.2.2.2.2.2⟩
        case rest =>
          as_aux_lemma =>
            clear hB k5 k8 k10 k11 ru rz q8 t8 r10 q11 k13 k14 k15 ru2 rp2 rs2 r15
            obtain ⟨hB, k5, k8, k10, k11, ru, rz, q8, t8, r10, q11⟩ := hcut
            obtain ⟨wb, rfl⟩ : ∃ u, u = wc := ⟨_, rfl⟩
            cases v1 with
            | false =>
              have hBH := Lib.hid hB
              clear hB k5 k8 k10 k11 ru rz q8 t8 r10 q11
              go_wp2_with fail
              go_ret
              exact ⟨rfl, hBH.out⟩
            | true =>
              obtain ⟨u1, u2, u3, u4, u5, u6, u7, u8, u9, u10, u11, u12⟩ := sm_ok hE.out.2.2.2.2.2
              obtain ⟨f1, f2, f3, f4, f5, -⟩ := hE.out
              rw [f4, f5] at u1 u2 u3 u4 u5 u6 u7 u9
              rw [f1] at u4
              rw [f2] at u5
              rw [f3] at u6 u12
              rw [f4] at u8 u11 u12
              have hO := Lib.hid (And.intro u2 u1)
              have hR := Lib.hid (And.intro u4 (And.intro u5 (And.intro u6 (And.intro u7 u3))))
              have hND := Lib.hid u8
              have hSC := Lib.hid u9
              have hHS := Lib.hid u12
              clear u1 u2 u3 u4 u5 u6 u7 u8 u9 u12 f1 f2 f3 f4 f5
              have xl := k5.lt
              have x0 := k5.cell 0
              have x1 := k5.cell 1
              have x2 := k5.cell 2
              simp at x0 x1 x2
              have yl := k8.lt
              have y0 := k8.cell 0
              have y1 := k8.cell 1
              simp at y0 y1
              go_wp2_with fail
              clear xl x0 x1 x2 yl y0 y1
              (with_reducible refine (iOpenSecret_w ky pg us A c P B8 d8 S C8 m8 _ ru q8 t8 (by omega) nP nS zs true hO.out).mono ?_)
              rintro e w28 ⟨B32, d32, rfl, r32, -, b28⟩
              have s28 : wb.heap.size ≤ w28.heap.size := b28.size
              replace hB := hB.trans (Below.mono b28 hB.size)
              replace k5 := k5.st b28
              replace k8 := k8.st b28
              replace k10 := k10.st b28
              replace k11 := k11.st b28
              replace ru := ru.st b28
              replace rz := rz.st b28
              replace q8 := q8.st b28
              replace t8 := t8.st b28
              replace r10 := r10.st b28
              replace q11 := q11.st b28
              clear b28
              have xl := k5.lt
              have x0 := k5.cell 0
              have x1 := k5.cell 1
              have x2 := k5.cell 2
              simp at x0 x1 x2
              have yl := k8.lt
              have y0 := k8.cell 0
              have y1 := k8.cell 1
              simp at y0 y1
              go_wp2_with fail
              clear xl x0 x1 x2 yl y0 y1
              (with_reducible refine (iReceiveSecret_w ky pg us A c P B8 d8 S C8 m8 _ ru q8 t8 (by omega) nP nS K G L zs true hR.out).mono ?_)
              rintro e w29 ⟨A34, c34, B35, d35, rfl, r34, r35, -, b29⟩
              have s29 : w28.heap.size ≤ w29.heap.size := b29.size
              replace hB := hB.trans (Below.mono b29 hB.size)
              replace k5 := k5.st b29
              replace k8 := k8.st b29
              replace k10 := k10.st b29
              replace k11 := k11.st b29
              replace ru := ru.st b29
              replace rz := rz.st b29
              replace q8 := q8.st b29
              replace t8 := t8.st b29
              replace r10 := r10.st b29
              replace q11 := q11.st b29
              replace r32 := r32.st b29
              clear b29
              go_wp2_with fail
              obtain ⟨w30, hw30⟩ : ∃ u, u = w29.alloc (.cells #[.int .i64 K, .int .i64 G, .slice A34 L.length c34] 52) := ⟨_, rfl⟩
              rw [← hw30]
              have e30 : w30.heap.size = w29.heap.size + 1 := by rw [hw30]; simp
              have s30 : w29.heap.size + 1 ≤ w30.heap.size := by omega
              have b30 : Below w29.heap.size w29 w30 := by rw [hw30]; exact (Below.refl _ _).alloc (Nat.le_refl _) _
              have k34 : Bk w30 (w29.heap.size) 52 #[.int .i64 K, .int .i64 G, .slice A34 L.length c34] := by rw [hw30]; exact Bk.new _ _ _
              replace hB := hB.trans (Below.mono b30 hB.size)
              replace k5 := k5.st b30
              replace k8 := k8.st b30
              replace k10 := k10.st b30
              replace k11 := k11.st b30
              replace ru := ru.st b30
              replace rz := rz.st b30
              replace q8 := q8.st b30
              replace t8 := t8.st b30
              replace r10 := r10.st b30
              replace q11 := q11.st b30
              replace r32 := r32.st b30
              replace r34 := r34.st b30
              replace r35 := r35.st b30
              replace e30 := Lib.hid e30
              clear b30 hw30
              (with_reducible refine (iNeededPages_v zs.length _ u10 _ hND.out).mono ?_)
              rintro ee ww ⟨rfl, hww⟩
              subst hww
              go_wp2_with fail
              (with_reducible refine (qInts_t zs B32 B zs.length zs.length d32 d _ rfl rfl r32 rz (by omega)).mono ?_)
              rintro e w31 ⟨rfl, b31⟩
              have s31 : w30.heap.size ≤ w31.heap.size := b31.size
              replace hB := hB.trans (Below.mono b31 hB.size)
              replace k5 := k5.st b31
              replace k8 := k8.st b31
              replace k10 := k10.st b31
              replace k11 := k11.st b31
              replace ru := ru.st b31
              replace rz := rz.st b31
              replace q8 := q8.st b31
              replace t8 := t8.st b31
              replace r10 := r10.st b31
              replace q11 := q11.st b31
              replace r32 := r32.st b31
              replace r34 := r34.st b31
              replace r35 := r35.st b31
              replace k34 := k34.st b31
              clear b31
              clear r32
              have xl := k34.lt
              have x0 := k34.cell 0
              have x1 := k34.cell 1
              have x2 := k34.cell 2
              simp at x0 x1 x2
              have yl := k10.lt
              have y0 := k10.cell 0
              have y1 := k10.cell 1
              have y2 := k10.cell 2
              simp at y0 y1 y2
              go_wp2_with fail
              clear xl x0 x1 x2 yl y0 y1 y2
              (with_reducible refine (qKeys_t K G L A34 A10 L.length L.length c34 c10 _ rfl rfl r34 r10 nL).mono ?_)
              rintro e w32 ⟨rfl, b32⟩
              have s32 : w31.heap.size ≤ w32.heap.size := b32.size
              replace hB := hB.trans (Below.mono b32 hB.size)
              replace k5 := k5.st b32
              replace k8 := k8.st b32
              replace k10 := k10.st b32
              replace k11 := k11.st b32
              replace ru := ru.st b32
              replace rz := rz.st b32
              replace q8 := q8.st b32
              replace t8 := t8.st b32
              replace r10 := r10.st b32
              replace q11 := q11.st b32
              replace r34 := r34.st b32
              replace r35 := r35.st b32
              replace k34 := k34.st b32
              clear b32
              clear r34 k34
              go_wp2_with fail
              (with_reducible refine (qInts_t zs B35 B zs.length zs.length d35 d _ rfl rfl r35 rz (by omega)).mono ?_)
              rintro e w33 ⟨rfl, b33⟩
              have s33 : w32.heap.size ≤ w33.heap.size := b33.size
              replace hB := hB.trans (Below.mono b33 hB.size)
              replace k5 := k5.st b33
              replace k8 := k8.st b33
              replace k10 := k10.st b33
              replace k11 := k11.st b33
              replace ru := ru.st b33
              replace rz := rz.st b33
              replace q8 := q8.st b33
              replace t8 := t8.st b33
              replace r10 := r10.st b33
              replace q11 := q11.st b33
              replace r35 := r35.st b33
              clear b33
              clear r35 rz
              have xl := k8.lt
              have x0 := k8.cell 0
              have x1 := k8.cell 1
              simp at x0 x1
              have yl := k11.lt
              have y0 := k11.cell 0
              have y1 := k11.cell 1
              simp at y0 y1
              go_wp2_with fail
              clear xl x0 x1 yl y0 y1
              (with_reducible refine (iIsSecret_x P B8 d8 S C8 m8 _ q8 t8 nP nS true hSC.out).mono ?_)
              rintro e w34 ⟨rfl, b34⟩
              have s34 : w33.heap.size ≤ w34.heap.size := b34.size
              replace hB := hB.trans (Below.mono b34 hB.size)
              replace k5 := k5.st b34
              replace k8 := k8.st b34
              replace k10 := k10.st b34
              replace k11 := k11.st b34
              replace ru := ru.st b34
              replace q8 := q8.st b34
              replace t8 := t8.st b34
              replace r10 := r10.st b34
              replace q11 := q11.st b34
              clear b34
              clear k8 q8 t8
              have xl := k11.lt
              have x0 := k11.cell 0
              have x1 := k11.cell 1
              simp at x0 x1
              go_wp2_with fail
              clear xl x0 x1
              replace ru := ru.std
              replace r10 := r10.std
              replace q11 := q11.std
              go_loopw [40, 258] (fun _ i wr => ∃ k : Nat, k ≤ P.length ∧ i = .int .i64 (k : Int) ∧ Below w.heap.size w wr ∧ Bk wr (w1.heap.size) 52 #[.int .i64 ky, .int .i64 pg, .slice A us.length c] ∧ Bk wr (w6.heap.size) 52 #[.int .i64 K, .int .i64 G, .slice A10 L.length c10] ∧ Rd wr 0 wr.heap.size A us ∧ Rd wr 0 wr.heap.size A10 L ∧ Rd wr 0 wr.heap.size B11 P) (fun _ i _ => P.length - (intOf i).toNat)
              case atStart => exact ⟨0, Nat.zero_le _, rfl, hB, k5, k10, ru, r10, q11⟩
              case round =>
                as_aux_lemma =>
                  clear hB k5 k10 k11 ru r10 q11
                  obtain ⟨k, hk, rfl, hB, k5, k10, ru, r10, q11⟩ := hrel
                  by_cases hlt : k < P.length
                  · have hm := hHS.out P[k] (List.getElem_mem hlt)
                    obtain ⟨bb, off, rfl, _, _, hcell⟩ := q11 (by omega)
                    have z0 := hcell k hlt
                    obtain ⟨pk, hpk⟩ : ∃ u, u = P[k] := ⟨_, rfl⟩
                    rw [← hpk] at z0 hm
                    clear hcell hpk
                    obtain ⟨hm1, hm2⟩ := hm
                    have i0 : (0 : Int) ≤ (k : Int) := by omega
                    have i1 : (k : Int) < (P.length : Int) := by omega
                    have hm1H := Lib.hid hm1
                    have hm2H := Lib.hid hm2
                    clear hm1 hm2
                    have xl := k5.lt
                    have x0 := k5.cell 0
                    have x1 := k5.cell 1
                    have x2 := k5.cell 2
                    simp at x0 x1 x2
                    go_wp2_with fail
                    (with_reducible refine (qHas_v us A us.length c pk _ rfl ru (by omega) false hm1H.out).mono ?_)
                    rintro ee ww ⟨rfl, hww⟩
                    subst hww
                    clear z0 i0 i1 xl x0 x1 x2
                    have xl := k10.lt
                    have x0 := k10.cell 0
                    have x1 := k10.cell 1
                    have x2 := k10.cell 2
                    simp at x0 x1 x2
                    go_wp2_with fail
                    (with_reducible refine (qHas_v L A10 L.length c10 pk _ rfl r10 nL true hm2H.out).mono ?_)
                    rintro ee ww ⟨rfl, hww⟩
                    subst hww
                    clear xl x0 x1 x2
                    have hall := Lib.hid (And.intro hB (And.intro k5 (And.intro k10 (And.intro ru (And.intro r10 q11)))))
                    clear hB k5 k10 ru r10 q11
                    go_wp2_with fail
                    go_roundw
                    case rel => exact ⟨k + 1, by omega, by go_num, hall.out.1, hall.out.2.1, hall.out.2.2.1, hall.out.2.2.2.1, hall.out.2.2.2.2.1, hall.out.2.2.2.2.2⟩
                    case measure => simp [intOf]; omega
                  · have hlt2 : ¬ ((k : Int) < (P.length : Int)) := by omega
                    have hBH := Lib.hid hB
                    clear hB k5 k10 ru r10 q11
                    go_wp2_with fail
                    go_ret
                    exact ⟨rfl, hBH.out⟩
end Go.Proofs.Yteajjbfecpffeaa
