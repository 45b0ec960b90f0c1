/-
  Contracts of ChangedEntries, in the reference and in the program. The conditions are bounds on lengths.
-/
import Derived.Test.YtbagliaelolhcaaFindE
import Derived.Test.YtbagliaelolhcaaSame
namespace Go.Proofs.Ytbagliaelolhcaa
open Go.RowKit Go.ChangeShapes Go.WideShapes
set_option linter.unusedVariables false
set_option linter.unusedSimpArgs false

/-- the places of the first k entries that show something else -/
def ceTo (es : List Ent) (k : Nat) : List Int := ((List.range k).filter fun i => match es[i]? with | some e => !eqL e.seen e.shown | none => false).map fun i : Nat => (i : Int)
theorem ceTo_zero (es : List Ent) : ceTo es 0 = [] := rfl
theorem ceTo_yes {es : List Ent} {k : Nat} (h : k < es.length) (h1 : eqL es[k].seen es[k].shown = false) : ceTo es (k + 1) = ceTo es k ++ [(k : Int)] := by
  unfold ceTo; rw [List.range_succ, List.filter_append, List.map_append]; simp [h, h1]
theorem ceTo_no {es : List Ent} {k : Nat} (h : k < es.length) (h1 : eqL es[k].seen es[k].shown = true) : ceTo es (k + 1) = ceTo es k := by
  unfold ceTo; rw [List.range_succ, List.filter_append, List.map_append]; simp [h, h1]
theorem ceTo_len (es : List Ent) (k : Nat) : (ceTo es k).length ≤ k := by
  unfold ceTo; rw [List.length_map]; exact Nat.le_trans (List.length_filter_le _ _) (by simp)
def ceL (es : List Ent) : List Int := if logB es then ceTo es es.length else []
theorem ceL_no {es : List Ent} (h : logB es = false) : ceL es = [] := by simp [ceL, h]
theorem ceL_yes {es : List Ent} (h : logB es = true) : ceL es = ceTo es es.length := by simp [ceL, h]

set_option maxHeartbeats 1000000 in
theorem sChangedEntries_any (es : List Ent) (A : Option Addr) (c : Nat) {l h : Nat} (w : World) (hr0 : RdE w l h A es) (hl : eszL es ≤ 1048576) :
    Calls Try.prog 34 #[.slice A es.length c] w fun e w' => ∃ A c, e = .returned (.tuple #[.slice A (ceL es).length c, .bool (logB es)]) ∧ Rd w' 0 w'.heap.size A (ceL es) ∧ (ceL es).length ≤ 1048576 ∧ Below w.heap.size w w' := by
  have hr := hr0.std
  clear hr0
  have hel : es.length ≤ 1048576 := Nat.le_trans (esz_len es) hl
  cases h1 : logB es with
  | false =>
    rw [ceL_no h1]
    go_enter Try.func34, Try.ntmps34
    go_wp2_with (go_at_call 86; (with_reducible refine (lgGood_v es A c _ hr hl _ h1).mono ?_); rintro e w1 ⟨rfl, hb1⟩)
    go_ret2
    (first | exact ⟨none, 0, rfl, Rd.nil, by simp, hb1⟩ | exact ⟨none, 0, rfl, Rd.nil, hb1⟩)
  | true =>
    rw [ceL_yes h1]
    have hcl := Lib.hid (ceTo_len es es.length)
    go_enter Try.func34, Try.ntmps34
    go_wp2_with (go_at_call 86; (with_reducible refine (lgGood_v es A c _ hr hl _ h1).mono ?_); rintro e w1 ⟨rfl, hb1⟩)
    have hr1 := hr.st hb1
    have hsz1 := hb1.size
    go_loopw [4, 5, 6, 12] (fun v _ _ i wr => ∃ k : Nat, k ≤ es.length ∧ i = .int .i64 k ∧ Own wr w1.heap.size wr.heap.size v (ceTo es k) ∧ Below w1.heap.size w1 wr) (fun _ _ _ i _ => es.length - (intOf i).toNat)
    case atStart => exact ⟨0, Nat.zero_le _, rfl, Own.nil, Below.refl _ _⟩
    case round =>
      obtain ⟨k, hk, rfl, hown, hbr⟩ := hrel
      have hszr := hbr.size
      by_cases hlt : k < es.length
      · obtain ⟨b, off, rfl, _, _, hc⟩ := (hr1.st hbr) (by omega)
        obtain ⟨A1, c1, A2, c2, x0, x1, x2, x3, x4, r1, r2⟩ := hc k hlt
        have hat := esz_at es k hlt
        have hcl2 := ceTo_len es k
        clear hc
        cases hq : eqL es[k].seen es[k].shown with
        | true =>
          have hst := Lib.hid (ceTo_no hlt hq)
          go_wp2_with (go_at_call 94; (with_reducible refine (l1Same_v es[k].seen es[k].shown A1 A2 c1 c2 _ (r1.alloc _) (r2.alloc _) (by omega) (by omega) _ hq).mono ?_); rintro e w2 ⟨rfl, hb2⟩)
          have ho2 := Lib.hid ((hown.alloc (.cells #[.int .i64 es[k].time, .int .i64 es[k].msg, .int .i64 es[k].part, .slice A1 es[k].seen.length c1, .slice A2 es[k].shown.length c2] 42)).st hb2)
          have s2 : wr.heap.size + 1 ≤ w2.heap.size := by have := hb2.size; simpa using this
          have hB2 := Lib.hid ((hbr.alloc hszr (.cells #[.int .i64 es[k].time, .int .i64 es[k].msg, .int .i64 es[k].part, .slice A1 es[k].seen.length c1, .slice A2 es[k].shown.length c2] 42)).trans (hb2.mono (by simp; omega)))
          clear hb2 hown hbr
          go_roundw
          case rel => exact ⟨k + 1, by omega, by go_num, by rw [hst.out]; exact ho2.out.mono (Nat.le_refl _) (by omega), hB2.out⟩
          case measure => simp [intOf]; omega
        | false =>
          have hst := Lib.hid (ceTo_yes hlt hq)
          go_wp2_with fail
          (with_reducible refine (l1Same_v es[k].seen es[k].shown A1 A2 c1 c2 _ (r1.alloc _) (r2.alloc _) (by omega) (by omega) _ hq).mono ?_)
          rintro e w2 ⟨rfl, hb2⟩
          have ho2 := (hown.alloc (.cells #[.int .i64 es[k].time, .int .i64 es[k].msg, .int .i64 es[k].part, .slice A1 es[k].seen.length c1, .slice A2 es[k].shown.length c2] 42)).st hb2
          have s2 : wr.heap.size + 1 ≤ w2.heap.size := by have := hb2.size; simpa using this
          have hB2 := (hbr.alloc hszr (.cells #[.int .i64 es[k].time, .int .i64 es[k].msg, .int .i64 es[k].part, .slice A1 es[k].seen.length c1, .slice A2 es[k].shown.length c2] 42)).trans (hb2.mono (by simp; omega))
          clear hb2 hown hbr
          go_wp2_with (at_builtin; refine wp_append_ints rfl (.tmp 23) (.tmp 25) rfl rfl (ho2.alloc _) (ys := [(k : Int)]) rfl ((Rd.one w2 _ _ _ rfl).mono (Nat.zero_le _) (by simp)) (by simp; omega) (by simp; omega) ?_; intro v3 w3 hown3 hg3 hb3 hat3)
          have hB3 := Lib.hid ((hB2.alloc (by omega) _).trans (hb3.mono (by omega)))
          have ho3 := Lib.hid hown3
          clear hown3 hg3 hb3 hat3 hB2 ho2
          go_roundw
          case rel => exact ⟨k + 1, by omega, by go_num, by rw [hst.out]; exact ho3.out, hB3.out⟩
          case measure => simp [intOf]; omega
      · obtain rfl : k = es.length := by omega
        obtain ⟨A, c, rfl, -, -⟩ := hown.rd
        have ho := Lib.hid (hown.mono (lo' := w.heap.size) hsz1 (Nat.le_refl _))
        have hB := hb1.trans (hbr.mono hsz1)
        clear hown
        go_wp2
        go_ret2
        exact ⟨_, _, rfl, ho.out.rd'.std, by have := hcl.out; omega, hB⟩

set_option maxHeartbeats 1000000 in
theorem iChangedEntries_any (es : List Ent) (A : Option Addr) (c : Nat) {l h : Nat} (w : World) (hr0 : RdE w l h A es) (hl : eszL es ≤ 1048576) (hcap : es.length ≤ c) :
    Calls Try.prog 33 #[.slice A es.length c] w fun e w' => ∃ A c, e = .returned (.tuple #[.slice A (ceL es).length c, .bool (logB es)]) ∧ Own w' w.heap.size w'.heap.size (.slice A (ceL es).length c) (ceL es) ∧ (ceL es).length ≤ 1048576 ∧ Below w.heap.size w w' := by
  have hr := hr0.std
  clear hr0
  have hel : es.length ≤ 1048576 := Nat.le_trans (esz_len es) hl
  cases h1 : logB es with
  | false =>
    rw [ceL_no h1]
    go_enter Try.func33, Try.ntmps33
    go_wp2_with (go_at_call 89; (with_reducible refine (iIsLog_v es A c _ hr hl hcap _ h1).mono ?_); rintro e w1 ⟨rfl, hb1⟩)
    go_ret2
    (first | exact ⟨none, 0, rfl, Own.nil, by simp, hb1⟩ | exact ⟨none, 0, rfl, Own.nil, hb1⟩)
  | true =>
    rw [ceL_yes h1]
    have hcl := Lib.hid (ceTo_len es es.length)
    go_enter Try.func33, Try.ntmps33
    go_wp2_with (go_at_call 89; (with_reducible refine (iIsLog_v es A c _ hr hl hcap _ h1).mono ?_); rintro e w1 ⟨rfl, hb1⟩)
    have hr1 := hr.st hb1
    have hsz1 := hb1.size
    go_loopw [4, 5, 6, 12] (fun v _ _ i wr => ∃ k : Nat, k ≤ es.length ∧ i = .int .i64 k ∧ Own wr w1.heap.size wr.heap.size v (ceTo es k) ∧ Below w1.heap.size w1 wr) (fun _ _ _ i _ => es.length - (intOf i).toNat)
    case atStart => exact ⟨0, Nat.zero_le _, rfl, Own.nil, Below.refl _ _⟩
    case round =>
      obtain ⟨k, hk, rfl, hown, hbr⟩ := hrel
      have hszr := hbr.size
      by_cases hlt : k < es.length
      · obtain ⟨b, off, rfl, _, _, hc⟩ := (hr1.st hbr) (by omega)
        obtain ⟨A1, c1, A2, c2, x0, x1, x2, x3, x4, r1, r2⟩ := hc k hlt
        have hat := esz_at es k hlt
        have hcl2 := ceTo_len es k
        clear hc
        cases hq : eqL es[k].seen es[k].shown with
        | true =>
          have hst := Lib.hid (ceTo_no hlt hq)
          go_wp2_with (go_at_call 97; (with_reducible refine (slEqual_v es[k].seen es[k].shown A1 A2 c1 c2 _ (r1.alloc _) (r2.alloc _) (by omega) (by omega) _ hq).mono ?_); rintro e w2 ⟨rfl, hb2⟩)
          have ho2 := Lib.hid ((hown.alloc (.cells #[.int .i64 es[k].time, .int .i64 es[k].msg, .int .i64 es[k].part, .slice A1 es[k].seen.length c1, .slice A2 es[k].shown.length c2] 42)).st hb2)
          have s2 : wr.heap.size + 1 ≤ w2.heap.size := by have := hb2.size; simpa using this
          have hB2 := Lib.hid ((hbr.alloc hszr (.cells #[.int .i64 es[k].time, .int .i64 es[k].msg, .int .i64 es[k].part, .slice A1 es[k].seen.length c1, .slice A2 es[k].shown.length c2] 42)).trans (hb2.mono (by simp; omega)))
          clear hb2 hown hbr
          go_roundw
          case rel => exact ⟨k + 1, by omega, by go_num, by rw [hst.out]; exact ho2.out.mono (Nat.le_refl _) (by omega), hB2.out⟩
          case measure => simp [intOf]; omega
        | false =>
          have hst := Lib.hid (ceTo_yes hlt hq)
          go_wp2_with fail
          (with_reducible refine (slEqual_v es[k].seen es[k].shown A1 A2 c1 c2 _ (r1.alloc _) (r2.alloc _) (by omega) (by omega) _ hq).mono ?_)
          rintro e w2 ⟨rfl, hb2⟩
          have ho2 := (hown.alloc (.cells #[.int .i64 es[k].time, .int .i64 es[k].msg, .int .i64 es[k].part, .slice A1 es[k].seen.length c1, .slice A2 es[k].shown.length c2] 42)).st hb2
          have s2 : wr.heap.size + 1 ≤ w2.heap.size := by have := hb2.size; simpa using this
          have hB2 := (hbr.alloc hszr (.cells #[.int .i64 es[k].time, .int .i64 es[k].msg, .int .i64 es[k].part, .slice A1 es[k].seen.length c1, .slice A2 es[k].shown.length c2] 42)).trans (hb2.mono (by simp; omega))
          clear hb2 hown hbr
          go_wp2_with (at_builtin; refine wp_append_ints rfl (.tmp 23) (.tmp 25) rfl rfl (ho2.alloc _) (ys := [(k : Int)]) rfl ((Rd.one w2 _ _ _ rfl).mono (Nat.zero_le _) (by simp)) (by simp; omega) (by simp; omega) ?_; intro v3 w3 hown3 hg3 hb3 hat3)
          have hB3 := Lib.hid ((hB2.alloc (by omega) _).trans (hb3.mono (by omega)))
          have ho3 := Lib.hid hown3
          clear hown3 hg3 hb3 hat3 hB2 ho2
          go_roundw
          case rel => exact ⟨k + 1, by omega, by go_num, by rw [hst.out]; exact ho3.out, hB3.out⟩
          case measure => simp [intOf]; omega
      · obtain rfl : k = es.length := by omega
        obtain ⟨A, c, rfl, -, -⟩ := hown.rd
        have ho := Lib.hid (hown.mono (lo' := w.heap.size) hsz1 (Nat.le_refl _))
        have hB := hb1.trans (hbr.mono hsz1)
        clear hown
        go_wp2
        go_ret2
        exact ⟨_, _, rfl, ho.out, by have := hcl.out; omega, hB⟩
end Go.Proofs.Ytbagliaelolhcaa
