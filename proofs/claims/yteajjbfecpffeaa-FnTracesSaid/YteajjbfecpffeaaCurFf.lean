/-
  The contract of the draw of FirstFault's law. The conditions are bounds on lengths.
-/
import Derived.Test.YteajjbfecpffeaaCurLl
import Derived.Test.YteajjbfecpffeaaLine
namespace Go.Proofs.Yteajjbfecpffeaa
open Go.RowKit Go.ChangeShapes Go.WideShapes
set_option linter.unusedVariables false
set_option linter.unusedSimpArgs false

set_option maxRecDepth 100000 in
set_option maxHeartbeats 8000000 in
theorem drawFirstFault_any (A0 : Option Addr) (n c0 : Nat) (w : World) (hcd : CodeAt w w.heap.size A0 n) (hn : n ≤ 9223372036854775807) (hnc : n ≤ c0) :
    Calls Try.prog 20 #[.slice A0 n c0] w fun e w' => ∃ (es : List (List Ent)) (A : Option Addr) (c : Nat) (m q : Int), e = .returned (.tuple #[.slice A es.length c, .int .i64 m, .int .i64 q]) ∧ (es.length ≤ 10 ∧ esszL es ≤ 8000 ∧ es.length ≤ c) ∧ RdEE w' w.heap.size w'.heap.size A es ∧ Below w.heap.size w w' := by
  go_enter Try.func20, Try.ntmps20
  have hB := Below.refl w.heap.size w
  go_wp2_with fail
  (with_reducible refine (drawTraceOf_any A0 n c0 _ hcd hn hnc).mono ?_)
  rintro e w1 ⟨es, A, c, m, q, rfl, ⟨hb1, hb2, hb3⟩, hr, b1⟩
  have s1 : w.heap.size ≤ w1.heap.size := b1.size
  replace hB := hB.trans (Below.mono b1 hB.size)
  clear b1
  skip
  have hcd1 : CodeAt w1 w1.heap.size A0 n := hcd.st hB
  clear hcd
  go_upto_region 3 with fail
  obtain ⟨w2, hw2⟩ : ∃ u, u = w1.alloc (.cells #[.slice A0 n c0, .int .i64 0, .int .u64 0] 84) := ⟨_, rfl⟩
  rw [← hw2]
  have e2 : w2.heap.size = w1.heap.size + 1 := by rw [hw2]; simp
  have s2 : w1.heap.size + 1 ≤ w2.heap.size := by omega
  have b2 : Below w1.heap.size w1 w2 := by rw [hw2]; exact (Below.refl _ _).alloc (Nat.le_refl _) _
  have hc : Cur w2 w1.heap.size 0 := by rw [hw2]; exact Cur.fresh hcd1 hn hnc
  clear hw2 hcd1 e2
  replace hB := hB.trans (Below.mono b2 hB.size)
  replace hr := hr.st b2
  clear b2
  obtain ⟨v, hv⟩ : ∃ v, logsB es = v := ⟨_, rfl⟩
  have hvH := Lib.hid hv
  clear hv
  go_wp2_with fail
  (with_reducible refine (auGood_w es A c _ hr (by omega) v hvH.out).mono ?_)
  rintro e w3 ⟨rfl, b3⟩
  have s3 : w2.heap.size ≤ w3.heap.size := b3.size
  replace hB := hB.trans (Below.mono b3 hB.size)
  replace hr := hr.st b3
  replace hc := hc.st b3
  clear b3
  cases v with
  | false =>
    have hall := Lib.hid (And.intro (hr.mono (Nat.le_refl _) (show _ ≤ w3.heap.size by omega)) hB)
    clear hr hB hc
    go_wp2_with fail
    go_ret3
    first | exact ⟨es, A, c, m, q, rfl, ⟨hb1, hb2, hb3⟩, hall.out.1, hall.out.2⟩ | exact ⟨es, A, c, ⟨m, q, rfl⟩, ⟨hb1, hb2, hb3⟩, hall.out.1, hall.out.2⟩
  | true =>
    go_wp2_with fail
    (with_reducible refine (one_any w1.heap.size 0 2 _ hc (by omega) (by omega)).mono ?_)
    rintro e w4 ⟨v2, rfl, hcn, f4, z4⟩
    clear hc
    have hc := hcn
    clear hcn
    have s4 : w3.heap.size ≤ w4.heap.size := f4.size
    replace hB := hB.trans (Fr.below f4 (by omega) (by omega))
    replace hr := hr.fr f4 (by omega)
    clear f4 z4
    cases v2 with
    | false =>
      have hall := Lib.hid (And.intro (hr.mono (Nat.le_refl _) (show _ ≤ w4.heap.size by omega)) hB)
      clear hr hB hc
      go_wp2_with fail
      go_ret3
      first | exact ⟨es, A, c, m, q, rfl, ⟨hb1, hb2, hb3⟩, hall.out.1, hall.out.2⟩ | exact ⟨es, A, c, ⟨m, q, rfl⟩, ⟨hb1, hb2, hb3⟩, hall.out.1, hall.out.2⟩
    | true =>
      clear hc
      go_wp2_with fail
      (with_reducible refine (auLine_any es A c _ hr (by omega) hvH.out).mono ?_)
      rintro e w5 ⟨A1, c1, rfl, oL, b5⟩
      have s5 : w4.heap.size ≤ w5.heap.size := b5.size
      replace hB := hB.trans (Below.mono b5 hB.size)
      replace hr := hr.st b5
      clear b5
      have rL := oL.rd'
      clear oL
      go_wp2_with fail
      go_loopw [29] (fun i wr => i = .int .i64 0 ∧ wr = w5) (fun _ _ => 0)
      case atStart => exact ⟨rfl, rfl⟩
      case round =>
        obtain ⟨rfl, rfl⟩ := hrel
        by_cases hl0 : 0 < (lfL es).length
        · obtain ⟨m1, q1, k1, i1, hx, -⟩ := lfL_at hl0
          obtain ⟨bL, oL, rfl, _, _, hc⟩ := rL hl0
          obtain ⟨A2, c2, x0, r2⟩ := hc 0 hl0
          rw [hx] at x0 r2
          obtain ⟨b2, o2, rfl, _, _, hc2⟩ := r2 (by simp)
          have x1 := hc2 0 (by simp)
          have x2 := hc2 1 (by simp)
          simp at x0 x1 x2
          have hl1 : (0 : Int) < ((lfL es).length : Int) := by omega
          clear hc hc2 hx r2 rL
          have hall := Lib.hid (And.intro (hr.mono (Nat.le_refl _) (show _ ≤ wr.heap.size by omega)) hB)
          clear hr hB
          go_wp2_with fail
          go_quiet (fail)
          go_wp2_with fail
          go_ret3
          exact ⟨es, A, c, _, _, rfl, ⟨hb1, hb2, hb3⟩, hall.out.1.drewN nq, below_drewN hall.out.2 nq⟩
        · have hl1 : ¬ ((0 : Int) < ((lfL es).length : Int)) := by omega
          clear rL
          have hall := Lib.hid (And.intro (hr.mono (Nat.le_refl _) (show _ ≤ wr.heap.size by omega)) hB)
          clear hr hB
          go_wp2_with fail
          go_ret3
          first | exact ⟨es, A, c, m, q, rfl, ⟨hb1, hb2, hb3⟩, hall.out.1, hall.out.2⟩ | exact ⟨es, A, c, ⟨m, q, rfl⟩, ⟨hb1, hb2, hb3⟩, hall.out.1, hall.out.2⟩
end Go.Proofs.Yteajjbfecpffeaa
