/-
  Contracts of LastTower and TimesOf, in the reference and in the program. The conditions are bounds on lengths.
-/
import Derived.Test.YteajjbfecpffeaaAreLogs
namespace Go.Proofs.Yteajjbfecpffeaa
open Go.RowKit Go.ChangeShapes Go.WideShapes
set_option linter.unusedVariables false
set_option linter.unusedSimpArgs false

def paB (es : List (List Ent)) (m p : Int) : Bool := logsB es && (inB m 1 999 && inB p 0 8)
/-- how many towers from the first on have an entry of the part -/
def ltN (es : List (List Ent)) (m p : Int) : Nat := (es.takeWhile fun l => decide (0 ≤ findI l m p)).length
theorem ltN_at {es : List (List Ent)} {m p : Int} {k : Nat} (h : k < es.length) (h1 : ¬ 0 ≤ findI es[k] m p) (h2 : ∀ j (h3 : j < es.length), j < k → 0 ≤ findI es[j] m p) : ltN es m p = k := by
  unfold ltN
  induction es generalizing k with
  | nil => exact absurd h (by simp)
  | cons a es ih =>
    cases k with
    | zero =>
      have : ¬ 0 ≤ findI a m p := h1
      simp [List.takeWhile_cons, this]
    | succ k =>
      have h0 : 0 ≤ findI a m p := h2 0 (by simp) (by omega)
      have hk : k < es.length := by simpa using h
      have h1' : ¬ 0 ≤ findI es[k] m p := by simpa using h1
      have := ih hk h1' (fun j h3 hj => by have := h2 (j + 1) (by simp; omega) (by omega); rwa [List.getElem_cons_succ] at this)
      simp [List.takeWhile_cons, h0, this]
theorem ltN_all {es : List (List Ent)} {m p : Int} (h2 : ∀ j (h3 : j < es.length), 0 ≤ findI es[j] m p) : ltN es m p = es.length := by
  unfold ltN
  induction es with
  | nil => rfl
  | cons a es ih =>
    have h0 : 0 ≤ findI a m p := h2 0 (by simp)
    have := ih (fun j h3 => by have := h2 (j + 1) (by simp; omega); rwa [List.getElem_cons_succ] at this)
    simp [List.takeWhile_cons, h0, this]
def ltB (es : List (List Ent)) (m p : Int) : Bool := paB es m p && decide (0 < ltN es m p)
def ltV (es : List (List Ent)) (m p : Int) : Int := if ltB es m p then (ltN es m p : Int) - 1 else 0
theorem ltB_no {es : List (List Ent)} {m p : Int} (h : paB es m p = false) : ltB es m p = false := by simp [ltB, h]
theorem ltV_no {es : List (List Ent)} {m p : Int} (h : ltB es m p = false) : ltV es m p = 0 := by simp [ltV, h]
theorem ltB_at {es : List (List Ent)} {m p : Int} {k : Nat} (h : paB es m p = true) (hk : ltN es m p = k) : ltB es m p = decide ((0 : Int) < (k : Int)) := by simp [ltB, h, hk]
theorem ltV_at {es : List (List Ent)} {m p : Int} {k : Nat} (h : paB es m p = true) (hk : ltN es m p = k) : ltV es m p = if (0 : Int) < (k : Int) then (k : Int) - 1 else 0 := by
  unfold ltV; rw [ltB_at h hk, hk]; by_cases h0 : (0 : Int) < (k : Int) <;> simp [h0]
theorem paB_log {es : List (List Ent)} {m p : Int} (h : paB es m p = true) : logsB es = true ∧ (1 ≤ es.length ∧ es.length ≤ 8) := by
  simp only [paB, Bool.and_eq_true] at h; exact ⟨h.1, (logsB_iff.1 h.1).1⟩

/-- the time of a part's entry, or -1 -/
def tmV (l : List Ent) (m p : Int) : Int := if 0 ≤ findI l m p then (match l[(findI l m p).toNat]? with | some e => e.time | none => -1) else -1
theorem tmV_no {l : List Ent} {m p : Int} (h : ¬ 0 ≤ findI l m p) : tmV l m p = -1 := by simp [tmV, h]
theorem tmV_yes {l : List Ent} {m p : Int} {q : Nat} (h : findI l m p = (q : Int)) (hq : q < l.length) : tmV l m p = l[q].time := by simp [tmV, h, hq]
def tmM (es : List (List Ent)) (m p : Int) : List Int := es.map fun l => tmV l m p
theorem tmM_len (es : List (List Ent)) (m p : Int) : (tmM es m p).length = es.length := by simp [tmM]
theorem tmM_at (es : List (List Ent)) (m p : Int) (k : Nat) (h : k < (tmM es m p).length) : (tmM es m p)[k] = tmV (es[k]'(by simpa [tmM] using h)) m p := by simp [tmM]
def tmL (es : List (List Ent)) (m p : Int) : List Int := if paB es m p then tmM es m p else []
theorem tmL_no {es : List (List Ent)} {m p : Int} (h : paB es m p = false) : tmL es m p = [] := by simp [tmL, h]
theorem tmL_yes {es : List (List Ent)} {m p : Int} (h : paB es m p = true) : tmL es m p = tmM es m p := by simp [tmL, h]
theorem tmM_take_succ (es : List (List Ent)) (m p : Int) (k : Nat) (h : k < es.length) : (tmM es m p).take (k + 1) = (tmM es m p).take k ++ [tmV es[k] m p] := by
  rw [List.take_succ_eq_append_getElem (by simpa [tmM] using h), tmM_at]
theorem tmM_tk_succ (es : List (List Ent)) (m p : Int) (k : Nat) (h : k < es.length) : (tk (tmM es m p) k).set k (tmV es[k] m p) = tk (tmM es m p) (k + 1) := by
  have hl : k < (tmM es m p).length := by simpa [tmM] using h
  rw [← tmM_at es m p k hl]; exact tk_succ _ _ hl
theorem set_set (l : List Int) (k : Nat) (a b : Int) : (l.set k a).set k b = l.set k b := by simp
theorem findI_cast {es : List Ent} {m p : Int} (h : 0 ≤ findI es m p) : ∃ q : Nat, findI es m p = (q : Int) ∧ q < es.length := by
  rcases findI_cases es m p with ⟨k, hk, e, _⟩ | ⟨e, _⟩
  · exact ⟨k, e, hk⟩
  · omega

theorem auGood_v (es : List (List Ent)) (A : Option Addr) (c : Nat) {l h : Nat} (w : World) (hr : RdEE w l h A es) (hl : esszL es ≤ 1048576) (v : Bool) (hv : logsB es = v) :
    Calls Try.prog 64 #[.slice A es.length c] w fun e w' => e = .returned (.bool v) ∧ Below w.heap.size w w' := by
  rw [← hv]; exact auGood_any es A c w hr hl
theorem iAreLogs_v (es : List (List Ent)) (A : Option Addr) (c : Nat) {l h : Nat} (w : World) (hr : RdEE w l h A es) (hl : esszL es ≤ 1048576) (v : Bool) (hv : logsB es = v) :
    Calls Try.prog 68 #[.slice A es.length c] w fun e w' => e = .returned (.bool v) ∧ Below w.heap.size w w' := by
  rw [← hv]; exact iAreLogs_any es A c w hr hl
theorem l1In_v (n lo hi : Int) (w : World) (v : Bool) (hv : inB n lo hi = v) :
    Calls Try.prog 104 #[.int .i64 n, .int .i64 lo, .int .i64 hi] w fun e w' => e = .returned (.bool v) ∧ w = w' := by
  rw [← hv]; exact l1In_any n lo hi w
theorem within_v (n lo hi : Int) (w : World) (v : Bool) (hv : inB n lo hi = v) :
    Calls Try.prog 86 #[.int .i64 n, .int .i64 lo, .int .i64 hi] w fun e w' => e = .returned (.bool v) ∧ w = w' := by
  rw [← hv]; exact within_any n lo hi w

set_option maxHeartbeats 1000000 in
theorem auAsked_v (es : List (List Ent)) (A : Option Addr) (c : Nat) (m p : Int) {l h : Nat} (w : World) (hr : RdEE w l h A es) (hl : esszL es ≤ 1048576) (v : Bool) (hv0 : paB es m p = v) :
    Calls Try.prog 60 #[.slice A es.length c, .int .i64 m, .int .i64 p] w fun e w' => e = .returned (.bool v) ∧ Below w.heap.size w w' := by
  subst hv0
  have hv : Hid (paB es m p = (logsB es && (inB m 1 999 && inB p 0 8))) := Lib.hid rfl
  cases q1 : logsB es <;> cases q2 : inB m 1 999 <;> cases q3 : inB p 0 8 <;>
  · go_enter Try.func60, Try.ntmps60
    go_wp2_with (first | (go_at_call 64; (with_reducible refine (auGood_v es A c _ hr hl _ q1).mono ?_); rintro e w1 ⟨rfl, hb1⟩) | (go_at_call 104; (with_reducible refine (l1In_v m 1 999 _ _ q2).mono ?_); rintro e w' ⟨rfl, rfl⟩) | (go_at_call 104; (with_reducible refine (l1In_v p 0 8 _ _ q3).mono ?_); rintro e w' ⟨rfl, rfl⟩))
    go_ret
    exact ⟨by rw [hv.out, q1, q2, q3]; rfl, hb1⟩

set_option maxHeartbeats 1000000 in
theorem partAsked_v (es : List (List Ent)) (A : Option Addr) (c : Nat) (m p : Int) {l h : Nat} (w : World) (hr : RdEE w l h A es) (hl : esszL es ≤ 1048576) (v : Bool) (hv0 : paB es m p = v) :
    Calls Try.prog 57 #[.slice A es.length c, .int .i64 m, .int .i64 p] w fun e w' => e = .returned (.bool v) ∧ Below w.heap.size w w' := by
  subst hv0
  have hv : Hid (paB es m p = (logsB es && (inB m 1 999 && inB p 0 8))) := Lib.hid rfl
  cases q1 : logsB es <;> cases q2 : inB m 1 999 <;> cases q3 : inB p 0 8 <;>
  · go_enter Try.func57, Try.ntmps57
    go_wp2_with (first | (go_at_call 68; (with_reducible refine (iAreLogs_v es A c _ hr hl _ q1).mono ?_); rintro e w1 ⟨rfl, hb1⟩) | (go_at_call 86; (with_reducible refine (within_v m 1 999 _ _ q2).mono ?_); rintro e w' ⟨rfl, rfl⟩) | (go_at_call 86; (with_reducible refine (within_v p 0 8 _ _ q3).mono ?_); rintro e w' ⟨rfl, rfl⟩))
    go_ret
    exact ⟨by rw [hv.out, q1, q2, q3]; rfl, hb1⟩

theorem l1Most_v (a b : Int) (w : World) :
    Calls Try.prog 63 #[.int .i64 a, .int .i64 b] w fun e w' => e = .returned (.int .i64 (if b < a then a else b)) ∧ w = w' := by
  by_cases h : b < a
  · rw [if_pos h]
    go_enter Try.func63, Try.ntmps63
    go_wp2
    go_ret
    exact ⟨rfl, rfl⟩
  · rw [if_neg h]
    go_enter Try.func63, Try.ntmps63
    go_wp2
    go_ret
    exact ⟨rfl, rfl⟩

set_option maxHeartbeats 2000000 in
theorem sLastTower_any (es : List (List Ent)) (A : Option Addr) (c : Nat) (m p : Int) {l h : Nat} (w : World) (hr0 : RdEE w l h A es) (hl : esszL es ≤ 1048576) :
    Calls Try.prog 19 #[.slice A es.length c, .int .i64 m, .int .i64 p] w fun e w' => e = .returned (.tuple #[.int .i64 (ltV es m p), .bool (ltB es m p)]) ∧ Below w.heap.size w w' := by
  have hr := hr0.std
  clear hr0
  have hel := essz_len es
  cases q : paB es m p with
  | false =>
    have hv := Lib.hid (ltV_no (ltB_no q))
    have hv2 := Lib.hid (ltB_no q)
    go_enter Try.func19, Try.ntmps19
    go_wp2_with (go_at_call 60; (with_reducible refine (auAsked_v es A c m p _ hr hl _ q).mono ?_); rintro e w1 ⟨rfl, hb1⟩)
    go_ret2
    exact ⟨ret_ib hv.out.symm hv2.out.symm, hb1⟩
  | true =>
    go_enter Try.func19, Try.ntmps19
    go_wp2_with (go_at_call 60; (with_reducible refine (auAsked_v es A c m p _ hr hl _ q).mono ?_); rintro e w1 ⟨rfl, hb1⟩)
    have hr1 := hr.st hb1
    have hsz1 := hb1.size
    go_loopw [8] (fun n wr => ∃ k : Nat, k ≤ es.length ∧ n = .int .i64 (k : Int) ∧ (∀ j (h3 : j < es.length), j < k → 0 ≤ findI es[j] m p) ∧ Below w1.heap.size w1 wr) (fun n _ => es.length - (intOf n).toNat)
    case atStart => exact ⟨0, Nat.zero_le _, rfl, fun j _ h => absurd h (by omega), Below.refl _ _⟩
    case round =>
      obtain ⟨k, hk, rfl, hall, hbr⟩ := hrel
      have hallH := Lib.hid hall
      clear hall
      by_cases hlt : k < es.length
      · obtain ⟨b, off, rfl, _, _, hc⟩ := (hr1.st hbr) (by omega)
        obtain ⟨A1, c1, x0, r1, _⟩ := hc k hlt
        have hat := essz_at es k hlt
        have hek := esz_len es[k]
        have hszr := hbr.size
        clear hc
        skip
        by_cases h0 : 0 ≤ findI es[k] m p
        · obtain ⟨qn, hq, hqn⟩ := findI_cast h0
          go_wp2_with (go_at_call 61; (with_reducible refine (lgFind_v es[k] A1 c1 m p _ r1 (by omega) _ hq).mono ?_); rintro e w2 ⟨rfl, hb2⟩)
          go_roundw
          case rel => exact ⟨k + 1, by omega, by go_num, fun j h2 h3 => by
            by_cases hj : j = k
            · subst hj; exact h0
            · exact hallH.out j h2 (by omega), hbr.trans (hb2.mono hszr)⟩
          case measure => simp [intOf]; omega
        · have hq : findI es[k] m p = -1 := by have := findI_range es[k] m p; omega
          have hn := ltN_at hlt h0 hallH.out
          have hv := Lib.hid (ltV_at q hn)
          have hv2 := Lib.hid (ltB_at q hn)
          clear hn
          by_cases hk0 : (0 : Int) < (k : Int)
          · have hv3 : Hid (ltV es m p = (k : Int) - 1) := Lib.hid (by rw [hv.out, if_pos hk0])
            have hv4 : Hid (ltB es m p = true) := Lib.hid (by rw [hv2.out]; simp; omega)
            go_wp2_with (first | (go_at_call 61; (with_reducible refine (lgFind_v es[k] A1 c1 m p _ r1 (by omega) _ hq).mono ?_); rintro e w2 ⟨rfl, hb2⟩) | (first | (go_at_call 63; (with_reducible refine (l1Most_v _ _ _).mono ?_); rintro e w' ⟨rfl, rfl⟩)))
            go_ret2
            exact ⟨ret_ib (by rw [hv3.out]; (try (rw [if_neg (by omega)]))) (by rw [hv4.out]; (try simp); (try omega)), hb1.trans ((hbr.trans (hb2.mono hszr)).mono hsz1)⟩
          · have hv3 : Hid (ltV es m p = 0) := Lib.hid (by rw [hv.out, if_neg hk0])
            have hv4 : Hid (ltB es m p = false) := Lib.hid (by rw [hv2.out]; simp; omega)
            go_wp2_with (first | (go_at_call 61; (with_reducible refine (lgFind_v es[k] A1 c1 m p _ r1 (by omega) _ hq).mono ?_); rintro e w2 ⟨rfl, hb2⟩) | (first | (go_at_call 63; (with_reducible refine (l1Most_v _ _ _).mono ?_); rintro e w' ⟨rfl, rfl⟩)))
            go_ret2
            exact ⟨ret_ib (by rw [hv3.out]; (try (rw [if_pos (by omega)]))) (by rw [hv4.out]; (try simp); (try omega)), hb1.trans ((hbr.trans (hb2.mono hszr)).mono hsz1)⟩
      · obtain rfl : k = es.length := by omega
        have hn := ltN_all fun j h3 => hallH.out j h3 h3
        have hv := Lib.hid (ltV_at q hn)
        have hv2 := Lib.hid (ltB_at q hn)
        have h18 := (paB_log q).2
        have hk0 : (0 : Int) < (es.length : Int) := by omega
        have hv3 : Hid (ltV es m p = (es.length : Int) - 1) := Lib.hid (by rw [hv.out, if_pos hk0])
        have hv4 : Hid (ltB es m p = true) := Lib.hid (by rw [hv2.out]; simp; omega)
        clear hn
        go_wp2_with (first | (go_at_call 63; (with_reducible refine (l1Most_v _ _ _).mono ?_); rintro e w' ⟨rfl, rfl⟩))
        go_ret2
        exact ⟨ret_ib (by rw [hv3.out]; (try (rw [if_neg (by omega)]))) (by rw [hv4.out]; (try simp); (try omega)), hb1.trans (hbr.mono hsz1)⟩

set_option maxHeartbeats 2000000 in
theorem iLastTower_any (es : List (List Ent)) (A : Option Addr) (c : Nat) (m p : Int) {l h : Nat} (w : World) (hr0 : RdEE w l h A es) (hl : esszL es ≤ 1048576) :
    Calls Try.prog 18 #[.slice A es.length c, .int .i64 m, .int .i64 p] w fun e w' => e = .returned (.tuple #[.int .i64 (ltV es m p), .bool (ltB es m p)]) ∧ Below w.heap.size w w' := by
  have hr := hr0.std
  clear hr0
  have hel := essz_len es
  cases q : paB es m p with
  | false =>
    have hv := Lib.hid (ltV_no (ltB_no q))
    have hv2 := Lib.hid (ltB_no q)
    go_enter Try.func18, Try.ntmps18
    go_wp2_with (go_at_call 57; (with_reducible refine (partAsked_v es A c m p _ hr hl _ q).mono ?_); rintro e w1 ⟨rfl, hb1⟩)
    go_ret2
    exact ⟨ret_ib hv.out.symm hv2.out.symm, hb1⟩
  | true =>
    go_enter Try.func18, Try.ntmps18
    go_wp2_with (go_at_call 57; (with_reducible refine (partAsked_v es A c m p _ hr hl _ q).mono ?_); rintro e w1 ⟨rfl, hb1⟩)
    have hr1 := hr.st hb1
    have hsz1 := hb1.size
    go_loopw [8] (fun n wr => ∃ k : Nat, k ≤ es.length ∧ n = .int .i64 ((k : Int) - 1) ∧ (∀ j (h3 : j < es.length), j < k → 0 ≤ findI es[j] m p) ∧ Below w1.heap.size w1 wr) (fun n _ => es.length - (intOf n + 1).toNat)
    case atStart => exact ⟨0, Nat.zero_le _, rfl, fun j _ h => absurd h (by omega), Below.refl _ _⟩
    case round =>
      obtain ⟨k, hk, rfl, hall, hbr⟩ := hrel
      have hallH := Lib.hid hall
      clear hall
      by_cases hlt : k < es.length
      · obtain ⟨b, off, rfl, _, _, hc⟩ := (hr1.st hbr) (by omega)
        obtain ⟨A1, c1, x0, r1, _⟩ := hc k hlt
        have hat := essz_at es k hlt
        have hek := esz_len es[k]
        have hszr := hbr.size
        clear hc
        skip
        by_cases h0 : 0 ≤ findI es[k] m p
        · obtain ⟨qn, hq, hqn⟩ := findI_cast h0
          go_wp2_with (go_at_call 58; (with_reducible refine (entryIndex_n es[k] A1 es[k].length c1 m p _ r1 rfl (by omega) _ hq).mono ?_); rintro e w2 ⟨rfl, hb2⟩)
          go_roundw
          case rel => exact ⟨k + 1, by omega, by go_num, fun j h2 h3 => by
            by_cases hj : j = k
            · subst hj; exact h0
            · exact hallH.out j h2 (by omega), hbr.trans (hb2.mono hszr)⟩
          case measure => simp [intOf]; omega
        · have hq : findI es[k] m p = -1 := by have := findI_range es[k] m p; omega
          have hn := ltN_at hlt h0 hallH.out
          have hv := Lib.hid (ltV_at q hn)
          have hv2 := Lib.hid (ltB_at q hn)
          clear hn
          by_cases hk0 : (0 : Int) < (k : Int)
          · have hv3 : Hid (ltV es m p = (k : Int) - 1) := Lib.hid (by rw [hv.out, if_pos hk0])
            have hv4 : Hid (ltB es m p = true) := Lib.hid (by rw [hv2.out]; simp; omega)
            go_wp2_with (first | (go_at_call 58; (with_reducible refine (entryIndex_n es[k] A1 es[k].length c1 m p _ r1 rfl (by omega) _ hq).mono ?_); rintro e w2 ⟨rfl, hb2⟩) | fail)
            go_ret2
            exact ⟨ret_ib (by rw [hv3.out]) (by rw [hv4.out]), hb1.trans ((hbr.trans (hb2.mono hszr)).mono hsz1)⟩
          · have hv3 : Hid (ltV es m p = 0) := Lib.hid (by rw [hv.out, if_neg hk0])
            have hv4 : Hid (ltB es m p = false) := Lib.hid (by rw [hv2.out]; simp; omega)
            go_wp2_with (first | (go_at_call 58; (with_reducible refine (entryIndex_n es[k] A1 es[k].length c1 m p _ r1 rfl (by omega) _ hq).mono ?_); rintro e w2 ⟨rfl, hb2⟩) | fail)
            go_ret2
            exact ⟨ret_ib (by rw [hv3.out]) (by rw [hv4.out]), hb1.trans ((hbr.trans (hb2.mono hszr)).mono hsz1)⟩
      · obtain rfl : k = es.length := by omega
        have hn := ltN_all fun j h3 => hallH.out j h3 h3
        have hv := Lib.hid (ltV_at q hn)
        have hv2 := Lib.hid (ltB_at q hn)
        have h18 := (paB_log q).2
        have hk0 : (0 : Int) < (es.length : Int) := by omega
        have hv3 : Hid (ltV es m p = (es.length : Int) - 1) := Lib.hid (by rw [hv.out, if_pos hk0])
        have hv4 : Hid (ltB es m p = true) := Lib.hid (by rw [hv2.out]; simp; omega)
        clear hn
        go_wp2_with fail
        go_ret2
        exact ⟨ret_ib (by rw [hv3.out]) (by rw [hv4.out]), hb1.trans (hbr.mono hsz1)⟩

set_option maxHeartbeats 2000000 in
theorem sTimesOf_any (es : List (List Ent)) (A : Option Addr) (c : Nat) (m p : Int) {l h : Nat} (w : World) (hr0 : RdEE w l h A es) (hl : esszL es ≤ 1048576) :
    Calls Try.prog 17 #[.slice A es.length c, .int .i64 m, .int .i64 p] w fun e w' => ∃ A c, e = .returned (.tuple #[.slice A (tmL es m p).length c, .bool (paB es m p)]) ∧ Rd w' 0 w'.heap.size A (tmL es m p) ∧ (tmL es m p).length ≤ 1048576 ∧ Below w.heap.size w w' := by
  have hr := hr0.std
  clear hr0
  have hel := essz_len es
  cases q : paB es m p with
  | false =>
    rw [tmL_no q]
    go_enter Try.func17, Try.ntmps17
    go_wp2_with (go_at_call 60; (with_reducible refine (auAsked_v es A c m p _ hr hl _ q).mono ?_); rintro e w1 ⟨rfl, hb1⟩)
    go_ret2
    (first | exact ⟨none, 0, rfl, Rd.nil, by simp, hb1⟩ | exact ⟨none, 0, rfl, Rd.nil, hb1⟩)
  | true =>
    rw [tmL_yes q]
    have hlenH := Lib.hid (tmM_len es m p)
    go_enter Try.func17, Try.ntmps17
    go_wp2_with (go_at_call 60; (with_reducible refine (auAsked_v es A c m p _ hr hl _ q).mono ?_); rintro e w1 ⟨rfl, hb1⟩)
    have hr1 := hr.st hb1
    have hsz1 := hb1.size
    go_loopw [8, 10, 11, 19] (fun v _ _ i wr => ∃ k : Nat, k ≤ es.length ∧ i = .int .i64 k ∧ Own wr w1.heap.size wr.heap.size v ((tmM es m p).take k) ∧ Below w1.heap.size w1 wr) (fun _ _ _ i _ => es.length - (intOf i).toNat)
    case atStart => exact ⟨0, Nat.zero_le _, rfl, Own.nil, Below.refl _ _⟩
    case round =>
      obtain ⟨k, hk, rfl, hown, hbr⟩ := hrel
      have hszr := hbr.size
      by_cases hlt : k < es.length
      · obtain ⟨b, off, rfl, _, _, hc⟩ := (hr1.st hbr) (by omega)
        obtain ⟨A1, c1, x0, r1, _⟩ := hc k hlt
        have hat := essz_at es k hlt
        have hek := esz_len es[k]
        have hpl : Hid (((tmM es m p).take k).length = k) := by show _ = _; rw [List.length_take, hlenH.out]; omega
        have hst0 := tmM_take_succ es m p k hlt
        clear hc
        by_cases h0 : 0 ≤ findI es[k] m p
        · obtain ⟨qn, hq, hqn⟩ := findI_cast h0
          rw [tmV_yes hq hqn] at hst0
          have hst := Lib.hid hst0
          clear hst0
          go_wp2_with fail
          (with_reducible refine (lgFind_v es[k] A1 c1 m p _ r1 (by omega) _ hq).mono ?_)
          rintro e w2 ⟨rfl, hb2⟩
          have ho2 := hown.st hb2
          have hB2 := hbr.trans (hb2.mono hszr)
          have hsz2 := hb2.size
          obtain ⟨b2, off2, rfl, _, _, hc2⟩ := (r1.st hb2) (by omega)
          obtain ⟨D1, d1, D2, d2, y0, _⟩ := hc2 qn hqn
          clear hb2 hown hbr
          go_wp2_with (at_builtin; refine wp_append_ints rfl (.tmp 29) (.tmp 35) rfl rfl ((ho2.mono (Nat.le_refl _) hsz2).alloc _) (ys := [es[k][qn].time]) rfl ((Rd.one w2 _ _ _ rfl).mono (Nat.zero_le _) (by simp)) (by rw [hpl.out]; simp; omega) (by simp; omega) ?_; intro v3 w3 hown3 hg3 hb3 hat3)
          have hB3 := Lib.hid ((hB2.alloc (by omega) _).trans (hb3.mono (by omega)))
          have ho3 := Lib.hid hown3
          clear hown3 hg3 hb3 hat3 hB2 ho2
          go_roundw
          case rel => exact ⟨k + 1, by omega, by go_num, by rw [hst.out]; exact ho3.out, hB3.out⟩
          case measure => simp [intOf]; omega
        · have hq : findI es[k] m p = -1 := by have := findI_range es[k] m p; omega
          rw [tmV_no h0] at hst0
          have hst := Lib.hid hst0
          clear hst0
          go_wp2_with fail
          (with_reducible refine (lgFind_v es[k] A1 c1 m p _ r1 (by omega) _ hq).mono ?_)
          rintro e w2 ⟨rfl, hb2⟩
          have ho2 := hown.st hb2
          have hB2 := hbr.trans (hb2.mono hszr)
          have hsz2 := hb2.size
          skip
          clear hb2 hown hbr
          go_wp2_with (at_builtin; refine wp_append_ints rfl (.tmp 37) (.tmp 38) rfl rfl ((ho2.mono (Nat.le_refl _) hsz2).alloc _) (ys := [-1]) rfl ((Rd.one w2 _ _ _ rfl).mono (Nat.zero_le _) (by simp)) (by rw [hpl.out]; simp; omega) (by simp; omega) ?_; intro v3 w3 hown3 hg3 hb3 hat3)
          have hB3 := Lib.hid ((hB2.alloc (by omega) _).trans (hb3.mono (by omega)))
          have ho3 := Lib.hid hown3
          clear hown3 hg3 hb3 hat3 hB2 ho2
          go_roundw
          case rel => exact ⟨k + 1, by omega, by go_num, by rw [hst.out]; exact ho3.out, hB3.out⟩
          case measure => simp [intOf]; omega
      · obtain rfl : k = es.length := by omega
        have hfin : Hid ((tmM es m p).take es.length = tmM es m p) := by show _ = _; rw [List.take_of_length_le (by rw [hlenH.out]; exact Nat.le_refl _)]
        rw [hfin.out] at hown
        obtain ⟨A, c, rfl, -, -⟩ := hown.rd
        have ho := Lib.hid hown
        have hB := hb1.trans (hbr.mono hsz1)
        clear hown
        go_wp2
        go_ret2
        exact ⟨_, _, rfl, ho.out.rd'.std, by rw [hlenH.out]; omega, hB⟩

set_option maxHeartbeats 2000000 in
theorem iTimesOf_any (es : List (List Ent)) (A : Option Addr) (c : Nat) (m p : Int) {l h : Nat} (w : World) (hr0 : RdEE w l h A es) (hl : esszL es ≤ 1048576) :
    Calls Try.prog 16 #[.slice A es.length c, .int .i64 m, .int .i64 p] w fun e w' => ∃ A c, e = .returned (.tuple #[.slice A (tmL es m p).length c, .bool (paB es m p)]) ∧ Own w' w.heap.size w'.heap.size (.slice A (tmL es m p).length c) (tmL es m p) ∧ (tmL es m p).length ≤ 1048576 ∧ Below w.heap.size w w' := by
  have hr := hr0.std
  clear hr0
  have hel := essz_len es
  cases q : paB es m p with
  | false =>
    rw [tmL_no q]
    go_enter Try.func16, Try.ntmps16
    go_wp2_with (go_at_call 57; (with_reducible refine (partAsked_v es A c m p _ hr hl _ q).mono ?_); rintro e w1 ⟨rfl, hb1⟩)
    go_ret2
    (first | exact ⟨none, 0, rfl, Own.nil, by simp, hb1⟩ | exact ⟨none, 0, rfl, Own.nil, hb1⟩)
  | true =>
    rw [tmL_yes q]
    have hlenH := Lib.hid (tmM_len es m p)
    go_enter Try.func16, Try.ntmps16
    go_wp2_with (first | (go_at_call 57; (with_reducible refine (partAsked_v es A c m p _ hr hl _ q).mono ?_); rintro e w1 ⟨rfl, hb1⟩) | (at_make; refine wp_make_ints rfl _ _ rfl es.length rfl rfl (by omega) ?_; intro w2 hown2 hb2 hs2))
    have hsz1 := hb1.size
    have hr1 := (hr.st hb1).st hb2
    have hs2H := Lib.hid hs2
    have hB2 := hb1.trans (hb2.mono hsz1)
    have ho1 : Hid (Own w2 w1.heap.size (w1.heap.size + 1) (.slice (some ⟨w1.heap.size, 0, none⟩) es.length es.length) (tk (tmM es m p) 0)) := by
      show Own _ _ _ _ _
      rw [tk_zero, hlenH.out]
      exact hown2.mono (Nat.le_refl _) (by omega)
    have hrw : RdEE w2 0 w1.heap.size A es := (hr.mono (Nat.le_refl _) hsz1).st hb1 |>.st hb2
    have hge : w1.heap.size + 1 ≤ w2.heap.size := by omega
    clear hown2 hs2 hr1
    go_loopw [9, 10, 11, 22] (fun _ _ _ i wr => ∃ k : Nat, k ≤ es.length ∧ i = .int .i64 k ∧ Own wr w1.heap.size (w1.heap.size + 1) (.slice (some ⟨w1.heap.size, 0, none⟩) es.length es.length) (tk (tmM es m p) k) ∧ Below w1.heap.size w2 wr ∧ w1.heap.size + 1 ≤ wr.heap.size) (fun _ _ _ i _ => es.length - (intOf i).toNat)
    case atStart => exact ⟨0, Nat.zero_le _, rfl, ho1.out, Below.refl _ _, hge⟩
    case round =>
      clear ho1 hge hs2H
      obtain ⟨k, hk, rfl, hown, hbr, hszr⟩ := hrel
      by_cases hlt : k < es.length
      · obtain ⟨b, off, rfl, _, hb0, hc⟩ := (hrw.below hbr (Nat.le_refl _)) (by omega)
        obtain ⟨A1, c1, x0, r1, _⟩ := hc k hlt
        have hat := essz_at es k hlt
        have hek := esz_len es[k]
        have hst0 := tmM_tk_succ es m p k hlt
        have htl := tk_length (tmM es m p) k (by rw [hlenH.out]; omega)
        rw [hlenH.out] at htl
        obtain ⟨g, c', he, _, _, g3, hcell, hfr⟩ := hown.at_ (by rw [htl]; omega)
        injection he with e1 e2 e3
        injection e1 with e1
        injection e1 with e1 e4
        subst e1
        have hf := hfr k
        obtain ⟨x, hcd⟩ : ∃ x, wr.cell? ⟨w1.heap.size, k, none⟩ = some (.int .i64 x) := ⟨_, hcell k (by rw [htl]; omega)⟩
        have hs1 := hown.stored (j := k) (-1)
        have hsB := hbr.setCell (p := ⟨w1.heap.size, k, none⟩) (Nat.le_refl _) (.int .i64 (-1))
        have hssz : (wr.setCell ⟨w1.heap.size, k, none⟩ (.int .i64 (-1))).heap.size = wr.heap.size := size_setCell _ _ _
        have r2 : RdE (wr.setCell ⟨w1.heap.size, k, none⟩ (.int .i64 (-1))) 0 w1.heap.size A1 es[k] := r1.below (Below.refl w1.heap.size wr |>.setCell (p := ⟨w1.heap.size, k, none⟩) (Nat.le_refl _) _) (Nat.le_refl _)
        have hsszH := Lib.hid hssz
        clear hcell hfr e2 e3 e4 hown hbr hc htl hssz
        by_cases h0 : 0 ≤ findI es[k] m p
        · obtain ⟨qn, hq, hqn⟩ := findI_cast h0
          rw [tmV_yes hq hqn] at hst0
          have hst := Lib.hid hst0
          clear hst0
          go_wp2_with fail
          (with_reducible refine (entryIndex_n es[k] A1 es[k].length c1 m p _ r2 rfl (by omega) _ hq).mono ?_)
          rintro e w3 ⟨rfl, hb3⟩
          have s3 : wr.heap.size ≤ w3.heap.size := by have := hb3.size; rw [hsszH.out] at this; exact this
          have ho3 := hs1.st hb3
          have hB3 := hsB.trans (hb3.mono (by rw [hsszH.out]; omega))
          obtain ⟨b2, off2, rfl, _, hb2', hc2⟩ := (r2.st hb3) (by omega)
          obtain ⟨D1, d1, D2, d2, y0, _⟩ := hc2 qn hqn
          obtain ⟨g, c', he, _, _, g3', hcell, hfr⟩ := ho3.at_ (by rw [List.length_set, tk_length _ _ (by rw [hlenH.out]; omega), hlenH.out]; omega)
          injection he with e1 e2 e3
          injection e1 with e1
          injection e1 with e1 e4
          subst e1
          have hf2 := hfr k
          obtain ⟨x, hcd2⟩ : ∃ x, w3.cell? ⟨w1.heap.size, k, none⟩ = some (.int .i64 x) := ⟨_, hcell k (by rw [List.length_set, tk_length _ _ (by rw [hlenH.out]; omega), hlenH.out]; omega)⟩
          have hs3 := Lib.hid (ho3.stored (j := k) es[k][qn].time)
          have hB4 := Lib.hid (hB3.setCell (p := ⟨w1.heap.size, k, none⟩) (Nat.le_refl _) (.int .i64 es[k][qn].time))
          clear hcell hfr e2 e3 e4 ho3 hB3 hb3 hc2 hs1 hsB hcd hf r2 r1 x0
          go_wp2
          go_roundw
          case rel => exact ⟨k + 1, by omega, by go_num, by rw [← hst.out, ← set_set _ k (-1)]; exact hs3.out, hB4.out, by rw [size_setCell]; omega⟩
          case measure => simp [intOf]; omega
        · have hq : findI es[k] m p = -1 := by have := findI_range es[k] m p; omega
          rw [tmV_no h0] at hst0
          have hst := Lib.hid hst0
          clear hst0
          go_wp2_with fail
          (with_reducible refine (entryIndex_n es[k] A1 es[k].length c1 m p _ r2 rfl (by omega) _ hq).mono ?_)
          rintro e w3 ⟨rfl, hb3⟩
          have s3 : wr.heap.size ≤ w3.heap.size := by have := hb3.size; rw [hsszH.out] at this; exact this
          have ho3 := Lib.hid (hs1.st hb3)
          have hB3 := Lib.hid (hsB.trans (hb3.mono (by rw [hsszH.out]; omega)))
          clear hb3 hs1 hsB
          go_wp2
          go_roundw
          case rel => exact ⟨k + 1, by omega, by go_num, by rw [← hst.out]; exact ho3.out, hB3.out, by omega⟩
          case measure => simp [intOf]; omega
      · obtain rfl : k = es.length := by omega
        have hfin : Hid (tk (tmM es m p) es.length = tmM es m p) := by show _ = _; rw [← hlenH.out]; exact tk_all _
        rw [hfin.out] at hown
        have ho : Hid (Own wr w.heap.size wr.heap.size (.slice (some ⟨w1.heap.size, 0, none⟩) (tmM es m p).length es.length) (tmM es m p)) := by rw [hlenH.out]; exact hown.mono hsz1 hszr
        have hB := hB2.trans (hbr.mono hsz1)
        clear hown
        go_wp2
        go_ret2
        exact ⟨_, _, by rw [hlenH.out]; rfl, ho.out, by rw [hlenH.out]; omega, hB⟩
end Go.Proofs.Yteajjbfecpffeaa
