/-
  Contracts of the program's search for an entry: the closure, the library's search that calls it, and the function that makes it. The conditions are bounds on lengths.
-/
import Derived.Test.YteajjbfecpffeaaIsLog
namespace Go.Proofs.Yteajjbfecpffeaa
open Go.RowKit Go.ChangeShapes Go.WideShapes
set_option linter.unusedVariables false
set_option linter.unusedSimpArgs false

theorem findI_take_yes {es : List Ent} {k : Nat} {m p : Int} (hk : k < es.length) (hm : isE es[k] m p = true) (h : ¬ 0 ≤ findI (es.take k) m p) : findI es m p = (k : Int) := by
  rcases findI_cases (es.take k) m p with ⟨j, hj, e, _⟩ | ⟨_, h2⟩
  · omega
  · refine findI_at hk hm fun j h3 h4 => ?_
    have := h2 j (by simp; omega)
    rwa [List.getElem_take] at this
theorem findI_take_no {es : List Ent} {k : Nat} {m p : Int} (hk : k < es.length) (h : 0 ≤ findI (es.take k) m p) : findI es m p ≠ (k : Int) := by
  rcases findI_cases (es.take k) m p with ⟨j, hj, _, e, _⟩ | ⟨h2, _⟩
  · have hj' : j < k := by simp at hj; omega
    rw [List.getElem_take] at e
    rcases findI_cases es m p with ⟨i, hi, e1, _, e2⟩ | ⟨e1, e2⟩
    · intro h3
      have : i = k := by omega
      have := e2 j (by omega) (by omega)
      rw [e] at this; cases this
    · have := e2 j (by omega)
      rw [e] at this; cases this
  · omega
theorem findI_nil (m p : Int) : findI [] m p = -1 := by simp [findI]
theorem isE_self (e : Ent) : isE e e.msg e.part = true := by simp [isE]

set_option maxHeartbeats 1000000 in
theorem eiClo_any (t m p : Int) (y : List Int) (A : Option Addr) (c : Nat) (z : List Int) (B : Option Addr) (d : Nat) (mm pp : Int) (b1 b2 : Nat) (w : World)
    (k1 : w.cell? ⟨b1, 0, none⟩ = some (.int .i64 mm)) (k2 : w.cell? ⟨b2, 0, none⟩ = some (.int .i64 pp)) (n1 : b1 < w.heap.size) (n2 : b2 < w.heap.size) (v : Bool) (hv : ((m == mm) && (p == pp)) = v) :
    Calls Try.prog 103 #[.agg #[.int .i64 t, .int .i64 m, .int .i64 p, .slice A y.length c, .slice B z.length d], .pointer (some ⟨b1, 0, none⟩), .pointer (some ⟨b2, 0, none⟩)] w fun e w' => e = .returned (.bool v) ∧ Below w.heap.size w w' := by
  have hb : ∀ o : Obj, Below w.heap.size w (w.alloc o) := fun o => (Below.refl _ _).alloc (Nat.le_refl _) o
  have c1 : ∀ o : Obj, (w.alloc o).cell? ⟨b1, 0, none⟩ = some (.int .i64 mm) := fun o => (World.cell?_alloc_lt w o ⟨b1, 0, none⟩ n1).trans k1
  have c2 : ∀ o : Obj, (w.alloc o).cell? ⟨b2, 0, none⟩ = some (.int .i64 pp) := fun o => (World.cell?_alloc_lt w o ⟨b2, 0, none⟩ n2).trans k2
  cases e1 : (m == mm) with
  | false =>
    have hq : Hid (v = false) := Lib.hid (by rw [← hv, e1]; rfl)
    clear hv
    go_enter Try.func103, Try.ntmps103
    go_wp2
    go_ret
    exact ⟨by rw [hq.out]; rfl, hb _⟩
  | true =>
    cases e2 : (p == pp) with
    | false =>
      have hq : Hid (v = false) := Lib.hid (by rw [← hv, e1, e2]; rfl)
      clear hv
      go_enter Try.func103, Try.ntmps103
      go_wp2
      go_ret
      exact ⟨by rw [hq.out]; rfl, hb _⟩
    | true =>
      have hq : Hid (v = true) := Lib.hid (by rw [← hv, e1, e2]; rfl)
      clear hv
      go_enter Try.func103, Try.ntmps103
      go_wp2
      go_ret
      exact ⟨by rw [hq.out]; rfl, hb _⟩
set_option maxHeartbeats 1000000 in
theorem idxE_any (es : List Ent) (A : Option Addr) (c : Nat) (m p : Int) (b1 b2 : Nat) {l h : Nat} (w : World) (hr0 : RdE w l h A es) (hl : es.length ≤ 1048576)
    (k1 : w.cell? ⟨b1, 0, none⟩ = some (.int .i64 m)) (k2 : w.cell? ⟨b2, 0, none⟩ = some (.int .i64 p)) (n1 : b1 < w.heap.size) (n2 : b2 < w.heap.size) :
    Calls Try.prog 102 #[.slice A es.length c, .func (.func 103) #[] #[.pointer (some ⟨b1, 0, none⟩), .pointer (some ⟨b2, 0, none⟩)]] w fun e w' => e = .returned (.int .i64 (findI es m p)) ∧ Below w.heap.size w w' := by
  have hr := hr0.std
  clear hr0
  go_enter Try.func102, Try.ntmps102
  go_wp2
  go_loopw [5, 8] (fun _ i wr => ∃ k : Nat, k ≤ es.length ∧ i = .int .i64 k ∧ (∀ j (h : j < es.length), j < k → isE es[j] m p = false) ∧ Below w.heap.size w wr) (fun _ i _ => es.length - (intOf i).toNat)
  case atStart => exact ⟨0, Nat.zero_le _, rfl, fun j _ h => absurd h (by omega), Below.refl _ _⟩
  case round =>
    obtain ⟨k, hk, rfl, hall, hbr⟩ := hrel
    have hallH := Lib.hid hall
    clear hall
    by_cases hlt : k < es.length
    · obtain ⟨b, off, rfl, _, _, hc⟩ := (hr.below hbr (Nat.le_refl _)) (by omega)
      obtain ⟨A1, c1, A2, c2, x0, x1, x2, x3, x4, r1, r2⟩ := hc k hlt
      clear hc
      have hszr := hbr.size
      have q1 : wr.cell? ⟨b1, 0, none⟩ = some (.int .i64 m) := (hbr.cell (p := ⟨b1, 0, none⟩) n1).trans k1
      have q2 : wr.cell? ⟨b2, 0, none⟩ = some (.int .i64 p) := (hbr.cell (p := ⟨b2, 0, none⟩) n2).trans k2
      have m1 : b1 < wr.heap.size := by omega
      have m2 : b2 < wr.heap.size := by omega
      have hdef : Hid (isE es[k] m p = ((es[k].msg == m) && (es[k].part == p))) := Lib.hid rfl
      cases e1 : ((es[k].msg == m) && (es[k].part == p)) with
      | false =>
        have hq := Lib.hid (show isE es[k] m p = false by rw [hdef.out, e1])
        go_wp2_with (go_at_call 103; with_reducible refine (eiClo_any es[k].time es[k].msg es[k].part es[k].seen A1 c1 es[k].shown A2 c2 m p b1 b2 _ q1 q2 m1 m2 _ e1).mono ?_; rintro e w2 ⟨rfl, hb2⟩)
        go_roundw
        case rel => exact ⟨k + 1, by omega, by go_num, fun j h1 h2 => by
          by_cases hj : j = k
          · subst hj; exact hq.out
          · exact hallH.out j h1 (by omega), hbr.trans (hb2.mono hszr)⟩
        case measure => simp [intOf]; omega
      | true =>
        have hq := Lib.hid (findI_at hlt (show isE es[k] m p = true by rw [hdef.out, e1]) hallH.out)
        go_wp2_with (go_at_call 103; with_reducible refine (eiClo_any es[k].time es[k].msg es[k].part es[k].seen A1 c1 es[k].shown A2 c2 m p b1 b2 _ q1 q2 m1 m2 _ e1).mono ?_; rintro e w2 ⟨rfl, hb2⟩)
        go_ret
        exact ⟨by rw [hq.out]; rfl, hbr.trans (hb2.mono hszr)⟩
    · have hq := Lib.hid (findI_no (es := es) (m := m) (p := p) fun j h1 => hallH.out j h1 (by omega))
      go_wp2
      go_ret
      exact ⟨by rw [hq.out]; rfl, hbr⟩
set_option maxHeartbeats 1000000 in
theorem entryIndex_n (es : List Ent) (A : Option Addr) (n c : Nat) (m p : Int) {l h : Nat} (w : World) (hr : RdE w l h A es) (hn : n = es.length) (hl : es.length ≤ 1048576) (v : Int) (hv : findI es m p = v) :
    Calls Try.prog 58 #[.slice A n c, .int .i64 m, .int .i64 p] w fun e w' => e = .returned (.int .i64 v) ∧ Below w.heap.size w w' := by
  subst hn hv
  have hb := ((Below.refl w.heap.size w).alloc (Nat.le_refl _) (.cells #[.int .i64 m] 3)).alloc (by simp) (.cells #[.int .i64 p] 3)
  have t1 : ((w.alloc (.cells #[.int .i64 m] 3)).alloc (.cells #[.int .i64 p] 3)).cell? ⟨w.heap.size, 0, none⟩ = some (.int .i64 m) := ((Bk.new w 3 #[.int .i64 m]).alloc (.cells #[.int .i64 p] 3)).cell 0
  have t2 : ((w.alloc (.cells #[.int .i64 m] 3)).alloc (.cells #[.int .i64 p] 3)).cell? ⟨w.heap.size + 1, 0, none⟩ = some (.int .i64 p) := (Bk.new2 w (.cells #[.int .i64 m] 3) 3 #[.int .i64 p]).cell 0
  go_enter Try.func58, Try.ntmps58
  go_wp2_with (go_at_call 102; go_loud (refine (idxE_any es A c m p w.heap.size (w.heap.size + 1) _ ((hr.alloc _).alloc _) hl t1 t2 (by simp; omega) (by simp)).mono ?_; rintro e w1 ⟨rfl, hb2⟩))
  go_ret
  exact ⟨rfl, hb.trans (hb2.mono (by simp; omega))⟩
end Go.Proofs.Yteajjbfecpffeaa
