/-
  Contract of ParseSecret in the program. The conditions are a bound on the text's length, and the library's variables.
-/
import Derived.Test.YtjhbffndiaggmaaGreatDoorBSS38
import Derived.Test.YtjhbffndiaggmaaGreatDoorBSS40
namespace Go.Proofs.YtjhbffndiaggmaaGreatDoor
open Go.RowKit Go.ChangeShapes Go.WideShapes
set_option linter.unusedVariables false
set_option linter.unusedSimpArgs false

/-- a secret of two slices, each in memory of its own, and a bool -/
def PsOwn (y z : List Int) (b : Bool) (w : World) (e : Ending) (w' : World) : Prop :=
  ∃ A c B d l1 r1 l2 r2, e = .returned (.tuple #[.agg #[.slice A y.length c, .slice B z.length d], .bool b]) ∧ Own w' l1 r1 (.slice A y.length c) y ∧ Own w' l2 r2 (.slice B z.length d) z ∧
    (w.heap.size ≤ l1 ∧ r1 ≤ w'.heap.size ∧ w.heap.size ≤ l2 ∧ r2 ≤ w'.heap.size ∧ (r1 ≤ l2 ∨ r2 ≤ l1)) ∧ y.length ≤ 1048576 ∧ z.length ≤ 1048576 ∧ Below w.heap.size w w'
theorem PsOwn.no {b b' : Bool} {w w' : World} {e : Ending} (he : e = .returned (.tuple #[.agg #[.slice none 0 0, .slice none 0 0], .bool b'])) (hb : b' = b) (hB : Below w.heap.size w w') : PsOwn [] [] b w e w' :=
  ⟨none, 0, none, 0, w.heap.size, w.heap.size, w.heap.size, w.heap.size, by rw [he, hb]; rfl, Own.nil, Own.nil, ⟨Nat.le_refl _, hB.size, Nat.le_refl _, hB.size, .inl (Nat.le_refl _)⟩, by simp, by simp, hB⟩
def pzB (s : ByteArray) : Bool := psB s.data.toList
def pzP (s : ByteArray) : List Int := psP s.data.toList
def pzL (s : ByteArray) : List Int := psL s.data.toList
theorem rn_len {b : UInt8} {s : List UInt8} {ns : List Int} (h : rnL (splitL b s) = some ns) : ns.length ≤ s.length + 1 := by
  have h5 := congrArg List.length (rnL_some h)
  simp only [List.length_map, splitL_length] at h5
  have := List.count_le_length (a := b) (l := s)
  omega
theorem cut_two {b : UInt8} {s : List UInt8} {ns : List Int} {c : UInt8} (h : rnL (splitL c (cutB b s)) = some ns) : (cutA b s).length + (cutB b s).length + 1 ≤ s.length := by
  by_cases hm : b ∈ s
  · obtain ⟨p, r, rfl, hp⟩ := List.eq_append_cons_of_mem hm
    rw [(cut_sep r hp).1, (cut_sep r hp).2]; simp <;> omega
  · rw [(cut_free hm).2] at h
    simp [splitL, rnL, rnO_nil] at h
theorem iIsSecret_n (y1 : List Int) (A1 : Option Addr) (n1 c1 : Nat) (z1 : List Int) (B1 : Option Addr) (m1 d1 : Nat) {l h l' h' : Nat} (w : World) (hr1 : Rd w l h A1 y1) (hr2 : Rd w l' h' B1 z1) (hn : n1 = y1.length) (hm : m1 = z1.length) (hl1 : y1.length ≤ 1048576) (hl2 : z1.length ≤ 1048576) (v : Bool) (hv : scB y1 z1 = v) :
    Calls Tryz.prog 49 #[.agg #[.slice A1 n1 c1, .slice B1 m1 d1]] w fun e w' => e = .returned (.bool v) ∧ Below w.heap.size w w' := by
  subst hn hm; exact iIsSecret_wt y1 A1 c1 z1 B1 d1 w hr1 hr2 hl1 hl2 v hv
set_option maxRecDepth 100000 in
set_option maxHeartbeats 4000000 in
theorem iParseSecret_l (l : List UInt8) (w : World) (hl : l.length ≤ 1048576) (hS : Sen w) :
    Calls Tryz.prog 42 #[.string (str l)] w (PsOwn (psP l) (psL l) (psB l) w) := by
  obtain ⟨ZB, hZB⟩ : ∃ ZB, ZB = Obj.cells #[.slice none 0 0, .slice none 0 0] 53 (0, 0) := ⟨_, rfl⟩
  have bZ0 : Bk (w.alloc ZB) w.heap.size 53 #[.slice none 0 0, .slice none 0 0] := by rw [hZB]; exact Bk.new w _ _
  have hs0 : (w.alloc ZB).heap.size = w.heap.size + 1 := by simp
  have hBa := (Below.refl w.heap.size w).alloc (Nat.le_refl _) ZB
  have hSa := hS.alloc ZB
  have hla := (cut_len 58 l).1
  have hlb := (cut_len 58 l).2
  by_cases h58 : l = [58]
  · subst h58
    have hyes := ps_some (s := [58]) (y := []) (z := []) rfl
    rw [hyes.1, hyes.2.1, hyes.2.2]
    have t0 := bZ0.cell 0
    have t1 := bZ0.cell 1
    have f0 := bZ0.frozen 0
    have f1 := bZ0.frozen 1
    simp at t0 t1
    have hst : str [58] = { data := #[58] } := rfl
    clear bZ0 hSa hyes hla hlb
    go_enter Tryz.func42, Tryz.ntmps42
    go_wp2_with fail
    rw [← hZB]
    clear hZB
    go_wp2_with fail
    refine bodyPost_ret (v := .tuple #[.agg #[.slice none 0 0, .slice none 0 0], .bool true]) (by simp [results, Tryz.results42, go_sem, t0, t1]) rfl ?_
    exact PsOwn.no rfl rfl hBa
  · have hne : ¬ str l = { data := #[58] } := fun e => h58 (str_inj (b := [58]) e)
    have hne2 : ((str l).toList == ({ data := #[58] } : ByteArray).toList) = false := by
      rw [beq_eq_false_iff_ne]
      intro e
      rw [ByteArray.toList_eq, ByteArray.toList_eq, str_toList] at e
      exact h58 e
    have hne3 : ((str l).toList == [58]) = false := by
      rw [beq_eq_false_iff_ne]
      intro e
      rw [ByteArray.toList_eq, str_toList] at e
      exact h58 e
    cases h1 : rnL (splitL 43 (cutA 58 l)) with
    | none =>
      have hno := Lib.hid (ps_none (s := l) (by unfold psS; rw [if_neg h58, h1]))
      cases h2 : rnL (splitL 32 (cutB 58 l)) with
      | none =>
        go_enter Tryz.func42, Tryz.ntmps42
        go_wp2_with fail
        rw [← hZB]
        (with_reducible refine (cut_call 58 l _ (by omega) hSa).mono ?_)
        rintro e w1 ⟨cv, rfl, hb1⟩
        have s1 : w.heap.size + 1 ≤ w1.heap.size := by have := hb1.size; omega
        have hB1 := hBa.trans (hb1.mono (by omega))
        have bZ1 := bZ0.st hb1
        have hS1 := hSa.st hb1
        clear hb1 bZ0 hBa hSa hs0 hne hne2 hne3
        go_wp2_with fail
        (with_reducible refine (splitNumbers_none (cutA 58 l) 43 _ (by omega) hS1 h1).mono ?_)
        rintro e w2 ⟨rfl, hb2⟩
        have s2 := hb2.size
        have hB2 := hB1.trans (hb2.mono (by omega))
        have bZ2 := bZ1.st hb2
        have hS2 := hS1.st hb2
        clear hb2 hB1 bZ1 hS1
        go_wp2_with fail
        (with_reducible refine (splitNumbers_none (cutB 58 l) 32 _ (by omega) hS2 h2).mono ?_)
        rintro e w3 ⟨rfl, hb3⟩
        have s3 := hb3.size
        have hB3 := hB2.trans (hb3.mono (by omega))
        have bZ3 := bZ2.st hb3
        obtain ⟨XB, hXB⟩ : ∃ XB, XB = Obj.cells #[.slice none 0 0, .slice none 0 0] 53 (0, 0) := ⟨_, rfl⟩
        have hB := Lib.hid (hB3.alloc (by omega) XB)
        have bZ := bZ3.alloc XB
        rw [hXB] at hB bZ
        have t0 := bZ.cell 0
        have t1 := bZ.cell 1
        have f0 := bZ.frozen 0
        have f1 := bZ.frozen 1
        have ql := bZ.lt
        simp only [List.getElem?_toArray, List.getElem?_cons_zero, List.getElem?_cons_succ] at t0 t1
        clear hb3 hB3 hB2 bZ2 bZ3 bZ hS2 hXB XB 
        go_wp2_with fail
        refine bodyPost_ret (v := .tuple #[.agg #[.slice none 0 0, .slice none 0 0], .bool false]) (by simp [results, Tryz.results42, go_sem, t0, t1]) rfl ?_
        rw [hno.out.1, hno.out.2.1, hno.out.2.2]
        exact PsOwn.no rfl rfl ((hB.out.setCell (by dsimp only; omega) _).setCell (by dsimp only; omega) _)
      | some z =>
        go_enter Tryz.func42, Tryz.ntmps42
        go_wp2_with fail
        rw [← hZB]
        (with_reducible refine (cut_call 58 l _ (by omega) hSa).mono ?_)
        rintro e w1 ⟨cv, rfl, hb1⟩
        have s1 : w.heap.size + 1 ≤ w1.heap.size := by have := hb1.size; omega
        have hB1 := hBa.trans (hb1.mono (by omega))
        have bZ1 := bZ0.st hb1
        have hS1 := hSa.st hb1
        clear hb1 bZ0 hBa hSa hs0 hne hne2 hne3
        go_wp2_with fail
        (with_reducible refine (splitNumbers_none (cutA 58 l) 43 _ (by omega) hS1 h1).mono ?_)
        rintro e w2 ⟨rfl, hb2⟩
        have s2 := hb2.size
        have hB2 := hB1.trans (hb2.mono (by omega))
        have bZ2 := bZ1.st hb2
        have hS2 := hS1.st hb2
        clear hb2 hB1 bZ1 hS1
        go_wp2_with fail
        (with_reducible refine (splitNumbers_yes (cutB 58 l) 32 _ (by omega) hS2 z h2).mono ?_)
        rintro e w3 ⟨A3, c3, rfl, ho3, hb3⟩
        have s3 := hb3.size
        have hB3 := hB2.trans (hb3.mono (by omega))
        have bZ3 := bZ2.st hb3
        obtain ⟨XB, hXB⟩ : ∃ XB, XB = Obj.cells #[.slice none 0 0, .slice A3 z.length c3] 53 (0, 0) := ⟨_, rfl⟩
        have hB := Lib.hid (hB3.alloc (by omega) XB)
        have bZ := bZ3.alloc XB
        rw [hXB] at hB bZ
        have t0 := bZ.cell 0
        have t1 := bZ.cell 1
        have f0 := bZ.frozen 0
        have f1 := bZ.frozen 1
        have ql := bZ.lt
        simp only [List.getElem?_toArray, List.getElem?_cons_zero, List.getElem?_cons_succ] at t0 t1
        clear hb3 hB3 hB2 bZ2 bZ3 bZ hS2 hXB XB ho3
        go_wp2_with fail
        refine bodyPost_ret (v := .tuple #[.agg #[.slice none 0 0, .slice none 0 0], .bool false]) (by simp [results, Tryz.results42, go_sem, t0, t1]) rfl ?_
        rw [hno.out.1, hno.out.2.1, hno.out.2.2]
        exact PsOwn.no rfl rfl ((hB.out.setCell (by dsimp only; omega) _).setCell (by dsimp only; omega) _)
    | some y =>
      cases h2 : rnL (splitL 32 (cutB 58 l)) with
      | none =>
        have hno := Lib.hid (ps_none (s := l) (by unfold psS; rw [if_neg h58, h1, h2]))
        go_enter Tryz.func42, Tryz.ntmps42
        go_wp2_with fail
        rw [← hZB]
        (with_reducible refine (cut_call 58 l _ (by omega) hSa).mono ?_)
        rintro e w1 ⟨cv, rfl, hb1⟩
        have s1 : w.heap.size + 1 ≤ w1.heap.size := by have := hb1.size; omega
        have hB1 := hBa.trans (hb1.mono (by omega))
        have bZ1 := bZ0.st hb1
        have hS1 := hSa.st hb1
        clear hb1 bZ0 hBa hSa hs0 hne hne2 hne3
        go_wp2_with fail
        (with_reducible refine (splitNumbers_yes (cutA 58 l) 43 _ (by omega) hS1 y h1).mono ?_)
        rintro e w2 ⟨A2, c2, rfl, ho2, hb2⟩
        have s2 := hb2.size
        have hB2 := hB1.trans (hb2.mono (by omega))
        have bZ2 := bZ1.st hb2
        have hS2 := hS1.st hb2
        clear hb2 hB1 bZ1 hS1
        go_wp2_with fail
        (with_reducible refine (splitNumbers_none (cutB 58 l) 32 _ (by omega) hS2 h2).mono ?_)
        rintro e w3 ⟨rfl, hb3⟩
        have s3 := hb3.size
        have hB3 := hB2.trans (hb3.mono (by omega))
        have bZ3 := bZ2.st hb3
        obtain ⟨XB, hXB⟩ : ∃ XB, XB = Obj.cells #[.slice A2 y.length c2, .slice none 0 0] 53 (0, 0) := ⟨_, rfl⟩
        have hB := Lib.hid (hB3.alloc (by omega) XB)
        have bZ := bZ3.alloc XB
        rw [hXB] at hB bZ
        have t0 := bZ.cell 0
        have t1 := bZ.cell 1
        have f0 := bZ.frozen 0
        have f1 := bZ.frozen 1
        have ql := bZ.lt
        simp only [List.getElem?_toArray, List.getElem?_cons_zero, List.getElem?_cons_succ] at t0 t1
        clear hb3 hB3 hB2 bZ2 bZ3 bZ hS2 hXB XB ho2
        go_wp2_with fail
        refine bodyPost_ret (v := .tuple #[.agg #[.slice none 0 0, .slice none 0 0], .bool false]) (by simp [results, Tryz.results42, go_sem, t0, t1]) rfl ?_
        rw [hno.out.1, hno.out.2.1, hno.out.2.2]
        exact PsOwn.no rfl rfl ((hB.out.setCell (by dsimp only; omega) _).setCell (by dsimp only; omega) _)
      | some z =>
        go_enter Tryz.func42, Tryz.ntmps42
        go_wp2_with fail
        rw [← hZB]
        (with_reducible refine (cut_call 58 l _ (by omega) hSa).mono ?_)
        rintro e w1 ⟨cv, rfl, hb1⟩
        have s1 : w.heap.size + 1 ≤ w1.heap.size := by have := hb1.size; omega
        have hB1 := hBa.trans (hb1.mono (by omega))
        have bZ1 := bZ0.st hb1
        have hS1 := hSa.st hb1
        clear hb1 bZ0 hBa hSa hs0 hne hne2 hne3
        go_wp2_with fail
        (with_reducible refine (splitNumbers_yes (cutA 58 l) 43 _ (by omega) hS1 y h1).mono ?_)
        rintro e w2 ⟨A2, c2, rfl, ho2, hb2⟩
        have s2 := hb2.size
        have hB2 := hB1.trans (hb2.mono (by omega))
        have bZ2 := bZ1.st hb2
        have hS2 := hS1.st hb2
        clear hb2 hB1 bZ1 hS1
        go_wp2_with fail
        (with_reducible refine (splitNumbers_yes (cutB 58 l) 32 _ (by omega) hS2 z h2).mono ?_)
        rintro e w3 ⟨A3, c3, rfl, ho3, hb3⟩
        have s3 := hb3.size
        have hB3 := hB2.trans (hb3.mono (by omega))
        have bZ3 := bZ2.st hb3
        have ho2' := ho2.st hb3
        obtain ⟨W, hW⟩ : ∃ W, W = w3.alloc (.cells #[.slice A2 y.length c2, .slice A3 z.length c3] 53) := ⟨_, rfl⟩
        have hB4 : Below w.heap.size w W := by rw [hW]; exact hB3.alloc (by omega) _
        have bZ4 : Bk W w.heap.size 53 #[.slice none 0 0, .slice none 0 0] := by rw [hW]; exact bZ3.alloc _
        have bX4 : Bk W w3.heap.size 53 #[.slice A2 y.length c2, .slice A3 z.length c3] := by rw [hW]; exact Bk.new w3 _ _
        have oy : Own W w1.heap.size w2.heap.size (.slice A2 y.length c2) y := by rw [hW]; exact ho2'.alloc _
        have oz : Own W w2.heap.size w3.heap.size (.slice A3 z.length c3) z := by rw [hW]; exact ho3.alloc _
        have s4 : w3.heap.size + 1 = W.heap.size := by rw [hW]; simp
        have x0 := bX4.cell 0
        have x1 := bX4.cell 1
        simp at x0 x1
        have q1 := rn_len h1
        have q2 := rn_len h2
        have q3 := cut_two h2
        have hly : y.length ≤ 1048576 := by omega
        have hlz : z.length ≤ 1048576 := by omega
        clear ho2 ho2' ho3 hb3 hB3 hB2 bZ2 bZ3 hS2
        go_wp2_with fail
        rw [← hW]
        clear hW
        cases hk : scB y z with
        | false =>
          have hno := Lib.hid (ps_none (s := l) (by unfold psS; rw [if_neg h58, h1, h2]; simp [hk]))
          (with_reducible refine (iIsSecret_n y A2 y.length c2 z A3 z.length c3 _ oy.rd' oz.rd' rfl rfl hly (by omega) _ hk).mono ?_)
          rintro e w5 ⟨rfl, hb5⟩
          have s5 := hb5.size
          have hB := Lib.hid (hB4.trans (hb5.mono (by omega)))
          have bZ := bZ4.st hb5
          have t0 := bZ.cell 0
          have t1 := bZ.cell 1
          have f0 := bZ.frozen 0
          have f1 := bZ.frozen 1
          simp at t0 t1
          clear hb5 bZ bZ4 bX4 oy oz x0 x1 hB4
          go_wp2_with fail
          refine bodyPost_ret (v := .tuple #[.agg #[.slice none 0 0, .slice none 0 0], .bool false]) (by simp [results, Tryz.results42, go_sem, t0, t1]) rfl ?_
          rw [hno.out.1, hno.out.2.1, hno.out.2.2]
          exact PsOwn.no rfl rfl ((hB.out.setCell (by dsimp only; omega) _).setCell (by dsimp only; omega) _)
        | true =>
          have hyes := Lib.hid (ps_some (s := l) (y := y) (z := z) (by unfold psS; rw [if_neg h58, h1, h2]; simp [hk]))
          (with_reducible refine (iIsSecret_n y A2 y.length c2 z A3 z.length c3 _ oy.rd' oz.rd' rfl rfl hly (by omega) _ hk).mono ?_)
          rintro e w5 ⟨rfl, hb5⟩
          have s5 := hb5.size
          have hB := Lib.hid (hB4.trans (hb5.mono (by omega)))
          have bZ := bZ4.st hb5
          have bX := bX4.st hb5
          have oy5 := oy.st hb5
          have oz5 := oz.st hb5
          have t0 := bZ.cell 0
          have t1 := bZ.cell 1
          have f0 := bZ.frozen 0
          have f1 := bZ.frozen 1
          have v0 := bX.cell 0
          have v1 := bX.cell 1
          simp at t0 t1 v0 v1
          have oyH := Lib.hid ((oy5.setCell (p := ⟨w.heap.size, 0, none⟩) (.inl (by dsimp only; omega)) (.slice A2 y.length c2)).setCell (p := ⟨w.heap.size, 1, none⟩) (.inl (by dsimp only; omega)) (.slice A3 z.length c3))
          have ozH := Lib.hid ((oz5.setCell (p := ⟨w.heap.size, 0, none⟩) (.inl (by dsimp only; omega)) (.slice A2 y.length c2)).setCell (p := ⟨w.heap.size, 1, none⟩) (.inl (by dsimp only; omega)) (.slice A3 z.length c3))
          have hBs := Lib.hid ((hB.out.setCell (p := ⟨w.heap.size, 0, none⟩) (by dsimp only; omega) (.slice A2 y.length c2)).setCell (p := ⟨w.heap.size, 1, none⟩) (by dsimp only; omega) (.slice A3 z.length c3))
          clear hb5 bZ bX bZ4 bX4 oy oz oy5 oz5 x0 x1 hB4
          go_wp2_with fail
          refine bodyPost_ret (v := .tuple #[.agg #[.slice A2 y.length c2, .slice A3 z.length c3], .bool true]) (by simp [results, Tryz.results42, go_sem, t0, t1]) rfl ?_
          rw [hyes.out.1, hyes.out.2.1, hyes.out.2.2]
          exact ⟨A2, c2, A3, c3, _, _, _, _, rfl, oyH.out, ozH.out, ⟨by omega, by simp only [size_setCell]; omega, by omega, by simp only [size_setCell]; omega, .inl (Nat.le_refl _)⟩, hly, by have := (sc_factsT hk).1; omega, hBs.out⟩
end Go.Proofs.YtjhbffndiaggmaaGreatDoor
