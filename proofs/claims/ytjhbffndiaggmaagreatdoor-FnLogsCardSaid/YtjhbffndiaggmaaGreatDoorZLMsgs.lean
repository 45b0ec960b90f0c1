/-
  Contracts of MessagesLogged, in the reference and in the program. The conditions are bounds on lengths.
-/
import Derived.Test.YtjhbffndiaggmaaGreatDoorZLUse
import Derived.Test.YtjhbffndiaggmaaGreatDoorBL24
import Derived.Test.YtjhbffndiaggmaaGreatDoorZLCompact
namespace Go.Proofs.YtjhbffndiaggmaaGreatDoor
open Go.RowKit Go.ChangeShapes Go.WideShapes
set_option linter.unusedVariables false
set_option linter.unusedSimpArgs false

def mgs (es : List Ent) (k : Nat) : List Int := (es.take k).map fun e => e.msg
theorem mgs_zero (es : List Ent) : mgs es 0 = [] := by simp [mgs]
theorem mgs_succ (es : List Ent) (k : Nat) (h : k < es.length) : mgs es (k + 1) = mgs es k ++ [es[k].msg] := by
  unfold mgs; rw [List.take_succ_eq_append_getElem h, List.map_append]; rfl
theorem mgs_len (es : List Ent) (k : Nat) : (mgs es k).length ≤ k := by simp [mgs]; omega
theorem mgs_all (es : List Ent) : (mgs es es.length).length = es.length := by simp [mgs]
def mlL (es : List Ent) : List Int := if logB es then dedL (mgs es es.length) else []
theorem mlL_no {es : List Ent} (h : logB es = false) : mlL es = [] := by simp [mlL, h]
theorem mlL_yes {es : List Ent} (h : logB es = true) : mlL es = dedL (mgs es es.length) := by simp [mlL, h]

set_option maxHeartbeats 2000000 in
theorem sMessagesLogged_any (es : List Ent) (A : Option Addr) (c : Nat) {l h : Nat} (w : World) (hr0 : RdE w l h A es) (hl : eszL es ≤ 1048576) :
    Calls Tryz.prog 55 #[.slice A es.length c] w fun e w' => ∃ A c, e = .returned (.tuple #[.slice A (mlL es).length c, .bool (logB es)]) ∧ Rd w' 0 w'.heap.size A (mlL es) ∧ (mlL es).length ≤ 1048576 ∧ Below w.heap.size w w' := by
  have hr := hr0.std
  clear hr0
  have hel : es.length ≤ 1048576 := Nat.le_trans (esz_len es) hl
  cases h1 : logB es with
  | false =>
    rw [mlL_no h1]
    go_enter Tryz.func55, Tryz.ntmps55
    go_wp2_with (go_at_call 128; (with_reducible refine (lgGood_v es A c _ hr hl _ h1).mono ?_); rintro e w1 ⟨rfl, hb1⟩)
    go_ret2
    (first | exact ⟨none, 0, rfl, Rd.nil, by simp, hb1⟩ | exact ⟨none, 0, rfl, Rd.nil, hb1⟩)
  | true =>
    rw [mlL_yes h1]
    have hdl := Lib.hid (dedL_len (mgs es es.length))
    have hml := Lib.hid (mgs_len es es.length)
    go_enter Tryz.func55, Tryz.ntmps55
    go_wp2_with (go_at_call 128; (with_reducible refine (lgGood_v es A c _ hr hl _ h1).mono ?_); rintro e w1 ⟨rfl, hb1⟩)
    have hr1 := hr.st hb1
    have hsz1 := hb1.size
    go_loopw [4, 12] (fun v i wr => ∃ (k : Nat) (Av : Option Addr) (cv : Nat), k ≤ es.length ∧ i = .int .i64 k ∧ v = .slice Av (dedL (mgs es k)).length cv ∧ Rd wr 0 wr.heap.size Av (dedL (mgs es k)) ∧ (dedL (mgs es k)).length ≤ cv ∧ cv ≤ 9223372036854775807 ∧ ((Av = none ∧ cv = 0) ∨ ∃ b off, Av = some ⟨b, off, none⟩) ∧ Below w1.heap.size w1 wr) (fun _ i _ => es.length - (intOf i).toNat)
    case atStart => exact ⟨0, none, 0, Nat.zero_le _, rfl, by rw [mgs_zero]; rfl, by rw [mgs_zero]; exact Rd.nil, by rw [mgs_zero]; exact Nat.le_refl _, by omega, .inl ⟨rfl, rfl⟩, Below.refl _ _⟩
    case round =>
      obtain ⟨k, Av, cv, hk, rfl, rfl, hrd, hcap, hc2, hA, hbr⟩ := hrel
      have hszr := hbr.size
      by_cases hlt : k < es.length
      · obtain ⟨b, off, rfl, _, _, hc⟩ := (hr1.st hbr) (by omega)
        obtain ⟨A1, c1, A2, c2, x0, x1, x2, x3, x4, r1, r2⟩ := hc k hlt
        have hd2 := dedL_len (mgs es k)
        have hm2 := mgs_len es k
        have hst : Hid (dedL (mgs es (k + 1)) = putL (dedL (mgs es k)) es[k].msg) := Lib.hid (by rw [mgs_succ es k hlt, dedL_snoc])
        have hne : Hid (0 < (putL (dedL (mgs es k)) es[k].msg).length) := Lib.hid (List.length_pos_of_mem (putL_mem.2 (.inr rfl)))
        clear hc
        go_wp2_with fail
        (with_reducible refine (l1Put_any (dedL (mgs es k)) Av cv es[k].msg _ (hrd.alloc _) (by omega) hcap hc2 hA).mono ?_)
        rintro e w2 ⟨A3, c3, l3, h3, rfl, q3, hor3, lc3, mc3, hb2⟩
        have s2 : wr.heap.size + 1 ≤ w2.heap.size := by have := hb2.size; simpa using this
        have hA3 : (A3 = none ∧ c3 = 0) ∨ ∃ b off, A3 = some ⟨b, off, none⟩ := by
          obtain ⟨b3, o3, e3, _⟩ := q3 hne.out
          exact .inr ⟨b3, o3, e3⟩
        have hq := Lib.hid q3.std
        have hB2 := Lib.hid ((hbr.alloc hszr (.cells #[.int .i64 es[k].time, .int .i64 es[k].msg, .int .i64 es[k].part, .slice A1 es[k].seen.length c1, .slice A2 es[k].shown.length c2] 74)).trans (hb2.mono (by simp; omega)))
        have hAH := Lib.hid hA3
        clear hb2 hbr q3 hrd hA3 hA
        go_wp2
        go_roundw
        case rel => exact ⟨k + 1, A3, c3, by omega, by go_num, by rw [hst.out], by rw [hst.out]; exact hq.out, by rw [hst.out]; exact lc3, mc3, hAH.out, hB2.out⟩
        case measure => simp [intOf]; omega
      · obtain rfl : k = es.length := by omega
        have hB := hb1.trans (hbr.mono hsz1)
        have hq := Lib.hid hrd
        clear hrd
        go_wp2
        go_ret2
        exact ⟨_, _, rfl, hq.out, by have := hdl.out; have := hml.out; omega, hB⟩
set_option maxHeartbeats 2000000 in
theorem iMessagesLogged_any (es : List Ent) (A : Option Addr) (c : Nat) {l h : Nat} (w : World) (hr0 : RdE w l h A es) (hl : eszL es ≤ 1048576) (hcap : es.length ≤ c) :
    Calls Tryz.prog 54 #[.slice A es.length c] w fun e w' => ∃ A c, e = .returned (.tuple #[.slice A (mlL es).length c, .bool (logB es)]) ∧ Own w' w.heap.size w'.heap.size (.slice A (mlL es).length c) (mlL es) ∧ (mlL es).length ≤ 1048576 ∧ Below w.heap.size w w' := by
  have hr := hr0.std
  clear hr0
  have hel : es.length ≤ 1048576 := Nat.le_trans (esz_len es) hl
  cases h1 : logB es with
  | false =>
    rw [mlL_no h1]
    go_enter Tryz.func54, Tryz.ntmps54
    go_wp2_with (go_at_call 56; (with_reducible refine (iIsLog_v es A c _ hr hl hcap _ h1).mono ?_); rintro e w1 ⟨rfl, hb1⟩)
    go_ret2
    (first | exact ⟨none, 0, rfl, Own.nil, by simp, hb1⟩ | exact ⟨none, 0, rfl, Own.nil, hb1⟩)
  | true =>
    rw [mlL_yes h1]
    have hdl := Lib.hid (dedL_len (mgs es es.length))
    have hml := Lib.hid (mgs_len es es.length)
    have hmn := Lib.hid (mgs_all es)
    have hcs := Lib.hid (compact_sort (mgs es es.length))
    go_enter Tryz.func54, Tryz.ntmps54
    go_wp2_with (go_at_call 56; (with_reducible refine (iIsLog_v es A c _ hr hl hcap _ h1).mono ?_); rintro e w1 ⟨rfl, hb1⟩)
    have hr1 := hr.st hb1
    have hsz1 := hb1.size
    go_loopw [4, 12] (fun v i wr => ∃ k : Nat, k ≤ es.length ∧ i = .int .i64 k ∧ Own wr w1.heap.size wr.heap.size v (mgs es k) ∧ Below w1.heap.size w1 wr) (fun _ i _ => es.length - (intOf i).toNat)
    case atStart => exact ⟨0, Nat.zero_le _, rfl, Own.nil, Below.refl _ _⟩
    case round =>
      obtain ⟨k, hk, rfl, hown, hbr⟩ := hrel
      have hszr := hbr.size
      by_cases hlt : k < es.length
      · obtain ⟨b, off, rfl, _, _, hc⟩ := (hr1.st hbr) (by omega)
        obtain ⟨A1, c1, A2, c2, x0, x1, x2, x3, x4, r1, r2⟩ := hc k hlt
        have hm2 := mgs_len es k
        have hst := Lib.hid (mgs_succ es k hlt)
        have ho2 := hown.alloc (.cells #[.int .i64 es[k].time, .int .i64 es[k].msg, .int .i64 es[k].part, .slice A1 es[k].seen.length c1, .slice A2 es[k].shown.length c2] 74)
        have hB2 := hbr.alloc hszr (.cells #[.int .i64 es[k].time, .int .i64 es[k].msg, .int .i64 es[k].part, .slice A1 es[k].seen.length c1, .slice A2 es[k].shown.length c2] 74)
        have esz1 : (wr.alloc (.cells #[.int .i64 es[k].time, .int .i64 es[k].msg, .int .i64 es[k].part, .slice A1 es[k].seen.length c1, .slice A2 es[k].shown.length c2] 74)).heap.size = wr.heap.size + 1 := by simp
        have hone := (Rd.one (wr.alloc (.cells #[.int .i64 es[k].time, .int .i64 es[k].msg, .int .i64 es[k].part, .slice A1 es[k].seen.length c1, .slice A2 es[k].shown.length c2] 74)) #[.int .i64 es[k].msg] 3 [es[k].msg] rfl).std
        rw [esz1] at hone
        clear hc hown hbr esz1
        go_wp2_with (at_builtin; refine wp_append_ints rfl (.tmp 16) (.tmp 19) rfl rfl (ho2.alloc _) (ys := [es[k].msg]) rfl hone (by simp; omega) (by simp; omega) ?_; intro v3 w3 hown3 hg3 hb3 hat3)
        have hB3 := Lib.hid ((hB2.alloc (by first | omega | (simp <;> omega)) _).trans (hb3.mono (by first | omega | (simp <;> omega))))
        have ho3 := Lib.hid hown3
        clear hown3 hg3 hb3 hat3 hB2 ho2 hone
        go_roundw
        case rel => exact ⟨k + 1, by omega, by go_num, by rw [hst.out]; exact ho3.out, hB3.out⟩
        case measure => simp [intOf]; omega
      · obtain rfl : k = es.length := by omega
        by_cases h0 : es.length = 0
        · obtain rfl := List.eq_nil_of_length_eq_zero h0
          rw [show mgs ([] : List Ent) ([] : List Ent).length = [] from rfl] at hown
          rcases hown.1.2 with ⟨rfl, _⟩ | ⟨g, cap, cur, rfl, q1, q2, q3, q4, _⟩
          · have hB := hb1.trans (hbr.mono hsz1)
            clear hown
            go_wp2_with (first | (go_at_call 91; (with_reducible refine (Sort_none none 0 _).mono ?_); rintro e w' ⟨rfl, rfl⟩) | (go_at_call 92; (with_reducible refine (Compact_none none 0 _).mono ?_); rintro e w' ⟨rfl, rfl⟩))
            go_ret2
            exact ⟨none, 0, rfl, Own.nil, by have := hdl.out; have := hml.out; omega, hB⟩
          · have hB := hb1.trans (hbr.mono hsz1)
            have ho := Lib.hid hown
            clear hown
            go_wp2_with (first | (go_at_call 91; (with_reducible refine (Sort_none (some ⟨g, 0, none⟩) cap _).mono ?_); rintro e w' ⟨rfl, rfl⟩) | (go_at_call 92; (with_reducible refine (Compact_none (some ⟨g, 0, none⟩) cap _).mono ?_); rintro e w' ⟨rfl, rfl⟩))
            go_ret2
            exact ⟨_, _, rfl, ho.out.mono hsz1 (Nat.le_refl _), by have := hdl.out; have := hml.out; omega, hB⟩
        · obtain ⟨g, cv, rfl, gl, gh, _, _, _⟩ := hown.at_ (by rw [hmn.out]; omega)
          have hmle := mgs_len es es.length
          have hBr := hb1.trans (hbr.mono hsz1)
          go_wp2_with fail
          (with_reducible refine (Sort_own (mgs es es.length) g cv _ hown (by omega)).mono ?_)
          rintro e w2 ⟨rfl, o2, f2⟩
          have s2 := f2.size
          have hB2 := hBr.trans (f2.below hsz1 (by omega) : Below w.heap.size wr w2)
          clear hown f2
          go_wp2_with fail
          (with_reducible refine (Compact_n (srtL (mgs es es.length)) (mgs es es.length).length g cv _ (by rw [srt_len]) o2 (by omega)).mono ?_)
          rintro e w3 ⟨rfl, o3, f3⟩
          have hB3 := hB2.trans (f3.below hsz1 (by omega) : Below w.heap.size w2 w3)
          rw [hcs.out] at o3
          have s3 := f3.size
          have ho := Lib.hid o3
          clear o2 o3 f3
          go_wp2
          go_ret2
          exact ⟨_, _, by rw [hcs.out]; rfl, ho.out.mono hsz1 (by omega), by have := hdl.out; have := hml.out; omega, hB3⟩
end Go.Proofs.YtjhbffndiaggmaaGreatDoor
