/-
  Contracts and plain laws that the walk uses, several texts in one. The conditions are named ahead of each.
-/
import Derived.Test.YtjhbffndiaggmaaGreatDoorZLIsLog

/-
  Plain functions on logs: entries of a span, an entry added, entries of two logs that belong together. No program here.
-/
namespace Go.Proofs.YtjhbffndiaggmaaGreatDoor
set_option linter.unusedVariables false
set_option linter.unusedSimpArgs false

/-! ### sizes -/
def eW (e : Ent) : Nat := 1 + (e.seen.length + e.shown.length)
theorem esz_sum (es : List Ent) : eszL es = (es.map eW).sum := by
  unfold eszL psum
  rw [List.take_length]
  induction es with
  | nil => rfl
  | cons e es ih => simp only [List.map_cons, List.sum_cons, List.length_cons] at ih ⊢; unfold eW at ih ⊢; omega
theorem esz_nil : eszL [] = 0 := rfl
theorem esz_append (a b : List Ent) : eszL (a ++ b) = eszL a + eszL b := by rw [esz_sum, esz_sum, esz_sum, List.map_append, List.sum_append]
theorem esz_one (e : Ent) : eszL [e] = 1 + (e.seen.length + e.shown.length) := by rw [esz_sum]; simp [eW]
theorem esz_filter (p : Ent → Bool) (es : List Ent) : eszL (es.filter p) ≤ eszL es := by
  rw [esz_sum, esz_sum]
  induction es with
  | nil => simp
  | cons e es ih =>
    rw [List.filter_cons]
    split
    · simp only [List.map_cons, List.sum_cons]; omega
    · simp only [List.map_cons, List.sum_cons]; omega
theorem esz_take (es : List Ent) (k : Nat) : eszL (es.take k) ≤ eszL es := by
  have := esz_append (es.take k) (es.drop k)
  rw [List.take_append_drop] at this
  omega
/-- what a valid log is, entry by entry -/
theorem log_at {es : List Ent} (h : logB es = true) (k : Nat) (hk : k < es.length) : (0 ≤ es[k].time ∧ es[k].time ≤ 10000) ∧ (1 ≤ es[k].msg ∧ es[k].msg ≤ 999) ∧ (0 ≤ es[k].part ∧ es[k].part ≤ 8) ∧ sgB es[k].seen = true ∧ sgB es[k].shown = true ∧ findI es es[k].msg es[k].part = (k : Int) := by
  have h1 := (logB_iff.1 h).2 k hk
  have e : eAt es k = es[k] := eAt_get hk
  simp only [okE, enE, enB, Bool.and_eq_true, inB_iff, e] at h1
  refine ⟨h1.1.1, h1.1.2.1, h1.1.2.2.1, h1.1.2.2.2.1, h1.1.2.2.2.2, ?_⟩
  simpa using h1.2.1
theorem log_len {es : List Ent} (h : logB es = true) : es.length ≤ 30 := (logB_iff.1 h).1
theorem sg_len {zs : List Int} (h : sgB zs = true) : zs.length ≤ 1000 := by
  simp only [sgB, Bool.and_eq_true, inB_iff] at h
  omega
theorem log_esz {es : List Ent} (h : logB es = true) : eszL es ≤ 100000 := by
  have hl := log_len h
  have key : ∀ k, k ≤ es.length → eszL (es.take k) ≤ 2001 * k := by
    intro k
    induction k with
    | zero => intro _; simp [esz_nil]
    | succ k ih =>
      intro hk
      have h1 := ih (by omega)
      obtain ⟨_, _, _, s1, s2, _⟩ := log_at h k (by omega)
      have h2 := sg_len s1
      have h3 := sg_len s2
      rw [List.take_succ_eq_append_getElem (by omega), esz_append, esz_one]
      omega
  have := key es.length (Nat.le_refl _)
  rw [List.take_length] at this
  omega

/-! ### the entries of a span -/
def selTo (es : List Ent) (f t : Int) (k : Nat) : List Ent := (es.take k).filter fun e => inB e.time f t
theorem selTo_zero (es : List Ent) (f t : Int) : selTo es f t 0 = [] := rfl
theorem selTo_yes {es : List Ent} {f t : Int} {k : Nat} (h : k < es.length) (h1 : inB es[k].time f t = true) : selTo es f t (k + 1) = selTo es f t k ++ [es[k]] := by
  unfold selTo; rw [List.take_succ_eq_append_getElem h, List.filter_append]; simp [h1]
theorem selTo_no {es : List Ent} {f t : Int} {k : Nat} (h : k < es.length) (h1 : inB es[k].time f t = false) : selTo es f t (k + 1) = selTo es f t k := by
  unfold selTo; rw [List.take_succ_eq_append_getElem h, List.filter_append]; simp [h1]
theorem selTo_esz (es : List Ent) (f t : Int) (k : Nat) : eszL (selTo es f t k) ≤ eszL es := Nat.le_trans (esz_filter _ _) (esz_take _ _)
theorem selTo_len (es : List Ent) (f t : Int) (k : Nat) : (selTo es f t k).length ≤ es.length := by
  unfold selTo
  exact Nat.le_trans (List.length_filter_le _ _) (by rw [List.length_take]; omega)
def efB (es : List Ent) (f t : Int) : Bool := logB es && (inB f 0 10000 && inB t 0 10000)
def efL (es : List Ent) (f t : Int) : List Ent := if efB es f t then selTo es f t es.length else []
theorem efL_no {es : List Ent} {f t : Int} (h : efB es f t = false) : efL es f t = [] := by simp [efL, h]
theorem efL_yes {es : List Ent} {f t : Int} (h : efB es f t = true) : efL es f t = selTo es f t es.length := by simp [efL, h]
theorem efL_esz (es : List Ent) (f t : Int) : eszL (efL es f t) ≤ eszL es := by
  unfold efL; split
  · exact selTo_esz _ _ _ _
  · rw [esz_nil]; omega

/-! ### an entry added -/
def aeB (es : List Ent) (t m p : Int) (y z : List Int) : Bool := logB es && logB (es ++ [⟨t, m, p, y, z⟩])
def aeL (es : List Ent) (t m p : Int) (y z : List Int) : List Ent := if aeB es t m p y z then es ++ [⟨t, m, p, y, z⟩] else []
theorem aeL_no {es : List Ent} {t m p : Int} {y z : List Int} (h : aeB es t m p y z = false) : aeL es t m p y z = [] := by simp [aeL, h]
theorem aeL_yes {es : List Ent} {t m p : Int} {y z : List Int} (h : aeB es t m p y z = true) : aeL es t m p y z = es ++ [⟨t, m, p, y, z⟩] := by simp [aeL, h]
theorem aeB_en {es : List Ent} {t m p : Int} {y z : List Int} (h : enB t m p y z = false) : aeB es t m p y z = false := by
  unfold aeB
  cases hl : logB es with
  | false => rfl
  | true =>
    rw [Bool.true_and]
    refine logB_no (i := es.length) (by simp) (okE_bad ?_)
    have : eAt (es ++ [⟨t, m, p, y, z⟩]) es.length = ⟨t, m, p, y, z⟩ := by simp [eAt]
    rw [this]
    exact h

/-! ### entries that belong together -/
/-- where the entry of the other log stands, if there is one -/
def tgJ (b : List Ent) (e : Ent) : Nat := (findI b e.msg e.part).toNat
def tgP (b : List Ent) (e : Ent) : Bool := decide (0 ≤ findI b e.msg e.part)
/-- the places in the first log and in the second -/
def tgTo (a b : List Ent) (k : Nat) : List (Nat × Nat) := ((List.range k).filter fun i => tgP b (eAt a i)).map fun i => (i, tgJ b (eAt a i))
theorem tgTo_zero (a b : List Ent) : tgTo a b 0 = [] := rfl
theorem tgTo_yes {a b : List Ent} {k : Nat} (h1 : tgP b (eAt a k) = true) : tgTo a b (k + 1) = tgTo a b k ++ [(k, tgJ b (eAt a k))] := by
  unfold tgTo; rw [List.range_succ, List.filter_append, List.map_append]; simp [h1]
theorem tgTo_no {a b : List Ent} {k : Nat} (h1 : tgP b (eAt a k) = false) : tgTo a b (k + 1) = tgTo a b k := by
  unfold tgTo; rw [List.range_succ, List.filter_append, List.map_append]; simp [h1]
theorem tgTo_len (a b : List Ent) (k : Nat) : (tgTo a b k).length ≤ k := by
  unfold tgTo
  rw [List.length_map]
  exact Nat.le_trans (List.length_filter_le _ _) (by simp)
theorem tgP_lt {b : List Ent} {e : Ent} (h : tgP b e = true) : tgJ b e < b.length ∧ findI b e.msg e.part = (tgJ b e : Int) := by
  simp only [tgP, decide_eq_true_eq] at h
  rcases findI_cases b e.msg e.part with ⟨k, hk, e1, _⟩ | ⟨e1, _⟩
  · unfold tgJ; rw [e1]; simp; omega
  · omega
theorem tgTo_at {a b : List Ent} {k : Nat} : ∀ x ∈ tgTo a b k, x.1 < k ∧ x.2 < b.length := by
  intro x hx
  unfold tgTo at hx
  obtain ⟨i, hi, rfl⟩ := List.mem_map.1 hx
  obtain ⟨h1, h2⟩ := List.mem_filter.1 hi
  exact ⟨List.mem_range.1 h1, (tgP_lt h2).1⟩
/-- how many of the first j pairs a rest does not have -/
def lsTo (a r : List Ent) (ps : List (Nat × Nat)) (j : Nat) : Nat := ((ps.take j).filter fun x => !tgP r (eAt a x.1)).length
theorem lsTo_zero (a r : List Ent) (ps : List (Nat × Nat)) : lsTo a r ps 0 = 0 := rfl
theorem lsTo_yes {a r : List Ent} {ps : List (Nat × Nat)} {j : Nat} (h : j < ps.length) (h1 : tgP r (eAt a ps[j].1) = false) : lsTo a r ps (j + 1) = lsTo a r ps j + 1 := by
  unfold lsTo; rw [List.take_succ_eq_append_getElem h, List.filter_append]; simp [h1]
theorem lsTo_no {a r : List Ent} {ps : List (Nat × Nat)} {j : Nat} (h : j < ps.length) (h1 : tgP r (eAt a ps[j].1) = true) : lsTo a r ps (j + 1) = lsTo a r ps j := by
  unfold lsTo; rw [List.take_succ_eq_append_getElem h, List.filter_append]; simp [h1]
theorem lsTo_le (a r : List Ent) (ps : List (Nat × Nat)) (j : Nat) : lsTo a r ps j ≤ ps.length := by
  unfold lsTo
  exact Nat.le_trans (List.length_filter_le _ _) (by rw [List.length_take]; omega)
def lcB (a b r : List Ent) : Bool := logB a && (logB b && logB r)
def lcV (a b r : List Ent) : Int := if lcB a b r then (lsTo a r (tgTo a b a.length) (tgTo a b a.length).length : Int) else 0
theorem lcV_no {a b r : List Ent} (h : lcB a b r = false) : lcV a b r = 0 := by simp [lcV, h]
theorem lcV_yes {a b r : List Ent} (h : lcB a b r = true) : lcV a b r = (lsTo a r (tgTo a b a.length) (tgTo a b a.length).length : Int) := by simp [lcV, h]

/-! ### a log between two -/
def fbB (l a b : List Ent) (v w : Int) : Bool := logB l && ((logB a && logB b) && (inB v 0 60 && inB w 0 60))
/-- the pair fits -/
def fitP (l a b : List Ent) (v w : Int) (x : Nat × Nat) : Bool :=
  tgP l (eAt a x.1) && (inB (eAt l (tgJ l (eAt a x.1))).time ((eAt a x.1).time + v) ((eAt b x.2).time - w) && (eqL (eAt l (tgJ l (eAt a x.1))).seen (eAt a x.1).shown && eqL (eAt l (tgJ l (eAt a x.1))).shown (eAt b x.2).seen))
def fitsB (l a b : List Ent) (v w : Int) : Bool := (tgTo a b a.length).all (fitP l a b v w) && decide ((tgTo a b a.length).length = l.length)
def fbV (l a b : List Ent) (v w : Int) : Bool := fbB l a b v w && fitsB l a b v w
theorem fbV_no {l a b : List Ent} {v w : Int} (h : fbB l a b v w = false) : fbV l a b v w = false := by simp [fbV, h]
theorem fbV_yes {l a b : List Ent} {v w : Int} (h : fbB l a b v w = true) : fbV l a b v w = fitsB l a b v w := by simp [fbV, h]
theorem fits_bad {l a b : List Ent} {v w : Int} {j : Nat} (h : j < (tgTo a b a.length).length) (h1 : fitP l a b v w (tgTo a b a.length)[j] = false) : fitsB l a b v w = false := by
  unfold fitsB
  rw [Bool.and_eq_false_iff]; left
  rw [List.all_eq_false]
  exact ⟨_, List.getElem_mem h, by simp [h1]⟩
theorem fits_len {l a b : List Ent} {v w : Int} (h : (tgTo a b a.length).length ≠ l.length) : fitsB l a b v w = false := by simp [fitsB, h]
theorem fits_all {l a b : List Ent} {v w : Int} (h : ∀ j (h : j < (tgTo a b a.length).length), fitP l a b v w (tgTo a b a.length)[j] = true) : fitsB l a b v w = decide ((tgTo a b a.length).length = l.length) := by
  unfold fitsB
  rw [show (tgTo a b a.length).all (fitP l a b v w) = true from List.all_eq_true.2 fun x hx => by
    obtain ⟨j, hj, rfl⟩ := List.getElem_of_mem hx
    exact h j hj, Bool.true_and]
end Go.Proofs.YtjhbffndiaggmaaGreatDoor

/-
  Contracts of the program's search for an entry: the closure, the library's search that calls it, and the function that makes it. The conditions are bounds on lengths.
-/
namespace Go.Proofs.YtjhbffndiaggmaaGreatDoor
open Go.RowKit Go.ChangeShapes Go.WideShapes
set_option linter.unusedVariables false
set_option linter.unusedSimpArgs false

theorem findI_take_yes {es : List Ent} {k : Nat} {m p : Int} (hk : k < es.length) (hm : isE es[k] m p = true) (h : ¬ 0 ≤ findI (es.take k) m p) : findI es m p = (k : Int) := by
  rcases findI_cases (es.take k) m p with ⟨j, hj, e, _⟩ | ⟨_, h2⟩
  · omega
  · refine findI_at hk hm fun j h3 h4 => ?_
    have := h2 j (by simp; omega)
    rwa [List.getElem_take] at this
theorem findI_take_no {es : List Ent} {k : Nat} {m p : Int} (hk : k < es.length) (h : 0 ≤ findI (es.take k) m p) : findI es m p ≠ (k : Int) := by
  rcases findI_cases (es.take k) m p with ⟨j, hj, _, e, _⟩ | ⟨h2, _⟩
  · have hj' : j < k := by simp at hj; omega
    rw [List.getElem_take] at e
    rcases findI_cases es m p with ⟨i, hi, e1, _, e2⟩ | ⟨e1, e2⟩
    · intro h3
      have : i = k := by omega
      have := e2 j (by omega) (by omega)
      rw [e] at this; cases this
    · have := e2 j (by omega)
      rw [e] at this; cases this
  · omega
theorem findI_nil (m p : Int) : findI [] m p = -1 := by simp [findI]
theorem isE_self (e : Ent) : isE e e.msg e.part = true := by simp [isE]

set_option maxHeartbeats 1000000 in
theorem eiClo_any (t m p : Int) (y : List Int) (A : Option Addr) (c : Nat) (z : List Int) (B : Option Addr) (d : Nat) (mm pp : Int) (b1 b2 : Nat) (w : World)
    (k1 : w.cell? ⟨b1, 0, none⟩ = some (.int .i64 mm)) (k2 : w.cell? ⟨b2, 0, none⟩ = some (.int .i64 pp)) (n1 : b1 < w.heap.size) (n2 : b2 < w.heap.size) (v : Bool) (hv : ((m == mm) && (p == pp)) = v) :
    Calls Tryz.prog 164 #[.agg #[.int .i64 t, .int .i64 m, .int .i64 p, .slice A y.length c, .slice B z.length d], .pointer (some ⟨b1, 0, none⟩), .pointer (some ⟨b2, 0, none⟩)] w fun e w' => e = .returned (.bool v) ∧ Below w.heap.size w w' := by
  have hb : ∀ o : Obj, Below w.heap.size w (w.alloc o) := fun o => (Below.refl _ _).alloc (Nat.le_refl _) o
  have c1 : ∀ o : Obj, (w.alloc o).cell? ⟨b1, 0, none⟩ = some (.int .i64 mm) := fun o => (World.cell?_alloc_lt w o ⟨b1, 0, none⟩ n1).trans k1
  have c2 : ∀ o : Obj, (w.alloc o).cell? ⟨b2, 0, none⟩ = some (.int .i64 pp) := fun o => (World.cell?_alloc_lt w o ⟨b2, 0, none⟩ n2).trans k2
  cases e1 : (m == mm) with
  | false =>
    have hq : Hid (v = false) := Lib.hid (by rw [← hv, e1]; rfl)
    clear hv
    go_enter Tryz.func164, Tryz.ntmps164
    go_wp2
    go_ret
    exact ⟨by rw [hq.out]; rfl, hb _⟩
  | true =>
    cases e2 : (p == pp) with
    | false =>
      have hq : Hid (v = false) := Lib.hid (by rw [← hv, e1, e2]; rfl)
      clear hv
      go_enter Tryz.func164, Tryz.ntmps164
      go_wp2
      go_ret
      exact ⟨by rw [hq.out]; rfl, hb _⟩
    | true =>
      have hq : Hid (v = true) := Lib.hid (by rw [← hv, e1, e2]; rfl)
      clear hv
      go_enter Tryz.func164, Tryz.ntmps164
      go_wp2
      go_ret
      exact ⟨by rw [hq.out]; rfl, hb _⟩
set_option maxHeartbeats 1000000 in
theorem idxE_any (es : List Ent) (A : Option Addr) (c : Nat) (m p : Int) (b1 b2 : Nat) {l h : Nat} (w : World) (hr0 : RdE w l h A es) (hl : es.length ≤ 1048576)
    (k1 : w.cell? ⟨b1, 0, none⟩ = some (.int .i64 m)) (k2 : w.cell? ⟨b2, 0, none⟩ = some (.int .i64 p)) (n1 : b1 < w.heap.size) (n2 : b2 < w.heap.size) :
    Calls Tryz.prog 163 #[.slice A es.length c, .func (.func 164) #[] #[.pointer (some ⟨b1, 0, none⟩), .pointer (some ⟨b2, 0, none⟩)]] w fun e w' => e = .returned (.int .i64 (findI es m p)) ∧ Below w.heap.size w w' := by
  have hr := hr0.std
  clear hr0
  go_enter Tryz.func163, Tryz.ntmps163
  go_wp2
  go_loopw [5, 8] (fun _ i wr => ∃ k : Nat, k ≤ es.length ∧ i = .int .i64 k ∧ (∀ j (h : j < es.length), j < k → isE es[j] m p = false) ∧ Below w.heap.size w wr) (fun _ i _ => es.length - (intOf i).toNat)
  case atStart => exact ⟨0, Nat.zero_le _, rfl, fun j _ h => absurd h (by omega), Below.refl _ _⟩
  case round =>
    obtain ⟨k, hk, rfl, hall, hbr⟩ := hrel
    have hallH := Lib.hid hall
    clear hall
    by_cases hlt : k < es.length
    · obtain ⟨b, off, rfl, _, _, hc⟩ := (hr.below hbr (Nat.le_refl _)) (by omega)
      obtain ⟨A1, c1, A2, c2, x0, x1, x2, x3, x4, r1, r2⟩ := hc k hlt
      clear hc
      have hszr := hbr.size
      have q1 : wr.cell? ⟨b1, 0, none⟩ = some (.int .i64 m) := (hbr.cell (p := ⟨b1, 0, none⟩) n1).trans k1
      have q2 : wr.cell? ⟨b2, 0, none⟩ = some (.int .i64 p) := (hbr.cell (p := ⟨b2, 0, none⟩) n2).trans k2
      have m1 : b1 < wr.heap.size := by omega
      have m2 : b2 < wr.heap.size := by omega
      have hdef : Hid (isE es[k] m p = ((es[k].msg == m) && (es[k].part == p))) := Lib.hid rfl
      cases e1 : ((es[k].msg == m) && (es[k].part == p)) with
      | false =>
        have hq := Lib.hid (show isE es[k] m p = false by rw [hdef.out, e1])
        go_wp2_with (go_at_call 164; with_reducible refine (eiClo_any es[k].time es[k].msg es[k].part es[k].seen A1 c1 es[k].shown A2 c2 m p b1 b2 _ q1 q2 m1 m2 _ e1).mono ?_; rintro e w2 ⟨rfl, hb2⟩)
        go_roundw
        case rel => exact ⟨k + 1, by omega, by go_num, fun j h1 h2 => by
          by_cases hj : j = k
          · subst hj; exact hq.out
          · exact hallH.out j h1 (by omega), hbr.trans (hb2.mono hszr)⟩
        case measure => simp [intOf]; omega
      | true =>
        have hq := Lib.hid (findI_at hlt (show isE es[k] m p = true by rw [hdef.out, e1]) hallH.out)
        go_wp2_with (go_at_call 164; with_reducible refine (eiClo_any es[k].time es[k].msg es[k].part es[k].seen A1 c1 es[k].shown A2 c2 m p b1 b2 _ q1 q2 m1 m2 _ e1).mono ?_; rintro e w2 ⟨rfl, hb2⟩)
        go_ret
        exact ⟨by rw [hq.out]; rfl, hbr.trans (hb2.mono hszr)⟩
    · have hq := Lib.hid (findI_no (es := es) (m := m) (p := p) fun j h1 => hallH.out j h1 (by omega))
      go_wp2
      go_ret
      exact ⟨by rw [hq.out]; rfl, hbr⟩
set_option maxHeartbeats 1000000 in
theorem entryIndex_n (es : List Ent) (A : Option Addr) (n c : Nat) (m p : Int) {l h : Nat} (w : World) (hr : RdE w l h A es) (hn : n = es.length) (hl : es.length ≤ 1048576) (v : Int) (hv : findI es m p = v) :
    Calls Tryz.prog 130 #[.slice A n c, .int .i64 m, .int .i64 p] w fun e w' => e = .returned (.int .i64 v) ∧ Below w.heap.size w w' := by
  subst hn hv
  have hb := ((Below.refl w.heap.size w).alloc (Nat.le_refl _) (.cells #[.int .i64 m] 3)).alloc (by simp) (.cells #[.int .i64 p] 3)
  have t1 : ((w.alloc (.cells #[.int .i64 m] 3)).alloc (.cells #[.int .i64 p] 3)).cell? ⟨w.heap.size, 0, none⟩ = some (.int .i64 m) := ((Bk.new w 3 #[.int .i64 m]).alloc (.cells #[.int .i64 p] 3)).cell 0
  have t2 : ((w.alloc (.cells #[.int .i64 m] 3)).alloc (.cells #[.int .i64 p] 3)).cell? ⟨w.heap.size + 1, 0, none⟩ = some (.int .i64 p) := (Bk.new2 w (.cells #[.int .i64 m] 3) 3 #[.int .i64 p]).cell 0
  go_enter Tryz.func130, Tryz.ntmps130
  go_wp2_with (go_at_call 163; go_loud (refine (idxE_any es A c m p w.heap.size (w.heap.size + 1) _ ((hr.alloc _).alloc _) hl t1 t2 (by simp; omega) (by simp)).mono ?_; rintro e w1 ⟨rfl, hb2⟩))
  go_ret
  exact ⟨rfl, hb.trans (hb2.mono (by simp; omega))⟩
end Go.Proofs.YtjhbffndiaggmaaGreatDoor

/-
  Plain functions on logs: two logs joined by time, and what joins them step by step. No program here.
-/
namespace Go.Proofs.YtjhbffndiaggmaaGreatDoor
set_option linter.unusedVariables false
set_option linter.unusedSimpArgs false

/-- joined by time; of equal times those of a first -/
def jM (a b : List Ent) : List Ent := List.merge a b (fun x y => decide (x.time ≤ y.time))
def jlB (a b : List Ent) : Bool := (logB a && logB b) && logB (jM a b)
def jlL (a b : List Ent) : List Ent := if jlB a b then jM a b else []
theorem jlB_a {a b : List Ent} (h : logB a = false) : jlB a b = false := by simp [jlB, h]
theorem jlB_b {a b : List Ent} (h : logB b = false) : jlB a b = false := by simp [jlB, h]
theorem jlB_v {a b : List Ent} {v : Bool} (h1 : logB a = true) (h2 : logB b = true) (h : logB (jM a b) = v) : jlB a b = v := by simp [jlB, h1, h2, h]
theorem jlL_no {a b : List Ent} (h : jlB a b = false) : jlL a b = [] := by simp [jlL, h]
theorem jlL_v {a b : List Ent} {v : Bool} (h : jlB a b = v) : jlL a b = if v = true then jM a b else [] := by simp [jlL, h]
theorem jM_len (a b : List Ent) : (jM a b).length = a.length + b.length := List.length_merge _ _ _
theorem jM_perm (a b : List Ent) : (jM a b).Perm (a ++ b) := List.merge_perm_append _
theorem jM_esz (a b : List Ent) : eszL (jM a b) = eszL a + eszL b := by
  rw [← esz_append, esz_sum, esz_sum]
  exact ((jM_perm a b).map eW).sum_nat
theorem jl_esz {a b : List Ent} : eszL (jlL a b) ≤ 1048576 := by
  unfold jlL
  split
  · rename_i h
    simp only [jlB, Bool.and_eq_true] at h
    have := log_esz h.2
    omega
  · rw [esz_nil]; omega
/-! ### step by step: what has been taken, and what is still to be joined -/
/-- i of a and k of b have been taken into out -/
def jAt (a b : List Ent) (i k : Nat) (out : List Ent) : Prop := out ++ jM (a.drop i) (b.drop k) = jM a b ∧ i ≤ a.length ∧ k ≤ b.length ∧ out.length = i + k ∧ eszL out = eszL (a.take i) + eszL (b.take k)
theorem jAt_start (a b : List Ent) : jAt a b 0 0 [] := ⟨by simp, Nat.zero_le _, Nat.zero_le _, rfl, by simp [esz_nil]⟩
theorem jAt_esz {a b : List Ent} {i k : Nat} {out : List Ent} (h : jAt a b i k out) : eszL out ≤ eszL a + eszL b := by
  have := esz_take a i
  have := esz_take b k
  have := h.2.2.2.2
  omega
theorem jAt_a {a b : List Ent} {i k : Nat} {out : List Ent} (h : jAt a b i k out) (hi : i < a.length) (hk : k < b.length) (ht : a[i].time ≤ b[k].time) : jAt a b (i + 1) k (out ++ [a[i]]) := by
  obtain ⟨h1, h2, h3, h4, h5⟩ := h
  refine ⟨?_, by omega, h3, by simp [h4]; omega, ?_⟩
  · rw [← h1, List.drop_eq_getElem_cons hi, List.drop_eq_getElem_cons hk, List.append_assoc]
    unfold jM
    rw [List.cons_merge_cons, if_pos (by simpa using ht)]
    rfl
  · rw [esz_append, h5, List.take_succ_eq_append_getElem hi, esz_append]; omega
theorem jAt_b {a b : List Ent} {i k : Nat} {out : List Ent} (h : jAt a b i k out) (hk : k < b.length) (ht : ∀ hi : i < a.length, ¬ a[i].time ≤ b[k].time) : jAt a b i (k + 1) (out ++ [b[k]]) := by
  obtain ⟨h1, h2, h3, h4, h5⟩ := h
  refine ⟨?_, h2, by omega, by simp [h4]; omega, ?_⟩
  · rw [← h1, List.drop_eq_getElem_cons hk, List.append_assoc]
    unfold jM
    by_cases hi : i < a.length
    · rw [List.drop_eq_getElem_cons hi, List.cons_merge_cons, if_neg (by simpa using ht hi)]
      rfl
    · rw [List.drop_eq_nil_of_le (by omega), List.nil_merge, List.nil_merge]
      rfl
  · rw [esz_append, h5, List.take_succ_eq_append_getElem hk, esz_append]; omega
theorem jAt_end {a b : List Ent} {i : Nat} {out : List Ent} (h : jAt a b i b.length out) : out ++ a.drop i = jM a b := by
  have := h.1
  rw [List.drop_length] at this
  unfold jM at this ⊢
  rwa [List.merge_right] at this
end Go.Proofs.YtjhbffndiaggmaaGreatDoor
