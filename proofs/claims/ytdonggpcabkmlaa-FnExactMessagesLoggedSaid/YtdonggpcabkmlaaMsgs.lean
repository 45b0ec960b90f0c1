/-
  Contracts of MessagesLogged, in the reference and in the program. The conditions are bounds on lengths.
-/
import Derived.Test.YtdonggpcabkmlaaUse
import Derived.Test.YtdonggpcabkmlaaFindE
import Derived.Test.YtdonggpcabkmlaaShelfC
import Derived.Shelf.Slices.CompactI
import Derived.Shelf.Slices.In.SortNone
import Derived.Lib.RowBridge
namespace Go.Proofs.Ytdonggpcabkmlaa
open Go.RowKit Go.ChangeShapes Go.WideShapes
set_option linter.unusedVariables false
set_option linter.unusedSimpArgs false

/-- each number once, in order -/
def dedL (l : List Int) : List Int := l.foldl putL []
theorem dedL_snoc (l : List Int) (n : Int) : dedL (l ++ [n]) = putL (dedL l) n := by simp [dedL]
theorem foldl_put {l s : List Int} (hs : s.Pairwise (· < ·)) : (l.foldl putL s).Pairwise (· < ·) ∧ ∀ x, x ∈ l.foldl putL s ↔ x ∈ s ∨ x ∈ l := by
  induction l generalizing s with
  | nil => exact ⟨hs, by simp⟩
  | cons a l ih =>
    have := ih (putL_pw (n := a) hs)
    refine ⟨this.1, fun x => ?_⟩
    rw [List.foldl_cons, this.2 x, putL_mem]
    simp only [List.mem_cons]
    constructor
    · rintro ((h | h) | h)
      · exact .inl h
      · exact .inr (.inl h)
      · exact .inr (.inr h)
    · rintro (h | h | h)
      · exact .inl (.inl h)
      · exact .inl (.inr h)
      · exact .inr h
theorem dedL_len (l : List Int) : (dedL l).length ≤ l.length := by
  have key : ∀ (s : List Int), (l.foldl putL s).length ≤ s.length + l.length := by
    induction l with
    | nil => intro s; simp
    | cons a l ih => intro s; have := ih (putL s a); have := putL_len s a; simp only [List.foldl_cons, List.length_cons]; omega
  simpa [dedL] using key []
theorem compact_go {s : List Int} (hs : s.Pairwise (· ≤ ·)) (m : Nat) (hm : m ≤ s.length) : (Lib.compactUpTo s.toArray m).Pairwise (· < ·) ∧ ∀ x, x ∈ Lib.compactUpTo s.toArray m ↔ x ∈ s.take m := by
  induction m with
  | zero => simp [Lib.compactUpTo]
  | succ m ih =>
    obtain ⟨h1, h2⟩ := ih (by omega)
    have hget : s.toArray[m]! = s[m] := by simp [show m < s.length by omega]
    rw [Lib.compactUpTo_succ, List.take_succ_eq_append_getElem (show m < s.length by omega)]
    have hle : ∀ i (hi : i < m), s[i] ≤ s[m] := fun i hi => List.pairwise_iff_getElem.1 hs i m (by omega) (by omega) hi
    cases hk : Lib.keeps s.toArray m with
    | true =>
      rw [if_pos rfl, hget]
      refine ⟨?_, fun x => by rw [List.mem_append, List.mem_append, h2 x]⟩
      rw [List.pairwise_append]
      refine ⟨h1, by simp, fun a ha b hb => ?_⟩
      simp at hb
      subst hb
      have ha2 := (h2 a).1 ha
      obtain ⟨i, hi, rfl⟩ := List.getElem_of_mem ha2
      rw [List.length_take] at hi
      rw [List.getElem_take]
      have h0 : m ≠ 0 := by omega
      have hne : s[m] ≠ s[m - 1] := by
        simp only [Lib.keeps, decide_eq_true_eq, h0, false_or] at hk
        rw [hget] at hk
        have : s.toArray[m - 1]! = s[m - 1] := by simp [show m - 1 < s.length by omega]
        rw [this] at hk
        exact hk
      have q1 := hle (m - 1) (by omega)
      have q2 : s[i] ≤ s[m - 1] := by
        by_cases e : i = m - 1
        · subst e; exact Int.le_refl _
        · exact List.pairwise_iff_getElem.1 hs i (m - 1) (by omega) (by omega) (by omega)
      omega
    | false =>
      rw [if_neg (by simp)]
      refine ⟨by simpa using h1, fun x => ?_⟩
      simp only [List.append_nil, h2 x, List.mem_append, List.mem_singleton]
      constructor
      · intro h; exact .inl h
      · rintro (h | rfl)
        · exact h
        · simp only [Lib.keeps, decide_eq_false_iff_not, not_or, Classical.not_not] at hk
          have : s.toArray[m - 1]! = s[m - 1] := by simp [show m - 1 < s.length by omega]
          rw [hget, this] at hk
          rw [hk.2]
          have hp : m - 1 < (s.take m).length := by rw [List.length_take]; omega
          have := List.getElem_mem hp
          rwa [List.getElem_take] at this
theorem compact_sort (l : List Int) : Lib.compact (srtL l) = dedL l := by
  have h := compact_go (srt_le l) (srtL l).length (Nat.le_refl _)
  have hd := foldl_put (l := l) (s := []) List.Pairwise.nil
  refine sorted_ext h.1 hd.1 fun x => ?_
  refine (show x ∈ Lib.compact (srtL l) ↔ _ from h.2 x).trans ?_
  rw [List.take_length, srt_mem]
  exact ((hd.2 x).trans (by simp)).symm

def mgs (es : List Ent) (k : Nat) : List Int := (es.take k).map fun e => e.msg
theorem mgs_zero (es : List Ent) : mgs es 0 = [] := by simp [mgs]
theorem mgs_succ (es : List Ent) (k : Nat) (h : k < es.length) : mgs es (k + 1) = mgs es k ++ [es[k].msg] := by
  unfold mgs; rw [List.take_succ_eq_append_getElem h, List.map_append]; rfl
theorem mgs_len (es : List Ent) (k : Nat) : (mgs es k).length ≤ k := by simp [mgs]; omega
theorem mgs_all (es : List Ent) : (mgs es es.length).length = es.length := by simp [mgs]
def mlL (es : List Ent) : List Int := if logB es then dedL (mgs es es.length) else []
theorem mlL_no {es : List Ent} (h : logB es = false) : mlL es = [] := by simp [mlL, h]
theorem mlL_yes {es : List Ent} (h : logB es = true) : mlL es = dedL (mgs es es.length) := by simp [mlL, h]

theorem Sort_none (p : Option Addr) (cap : Nat) (w : World) : Calls Try.prog 67 #[.slice p 0 cap] w fun e w' => e = .returned (.tuple #[]) ∧ w = w' :=
  (Any.slices_Sort_int_none Try.lays189 p cap w).mono fun e w' ⟨he, hw⟩ => ⟨he, hw.symm⟩
theorem Compact_none (p : Option Addr) (cap : Nat) (w : World) : Calls Try.prog 68 #[.slice p 0 cap] w fun e w' => e = .returned (.slice p 0 cap) ∧ w = w' :=
  (Any.slices_Compact_int_empty Try.laysNm220 p cap w).mono fun e w' ⟨he, hw⟩ => ⟨he, hw.symm⟩
theorem Compact_n (zs : List Int) (n g c : Nat) {lo hi : Nat} (w : World) (hn : n = zs.length) (hown : Own w lo hi (.slice (some ⟨g, 0, none⟩) n c) zs) (hl : n ≤ 1048576) :
    Calls Try.prog 68 #[.slice (some ⟨g, 0, none⟩) n c] w fun e w' => e = .returned (.slice (some ⟨g, 0, none⟩) (Lib.compact zs).length c) ∧ Own w' lo hi (.slice (some ⟨g, 0, none⟩) (Lib.compact zs).length c) (Lib.compact zs) ∧ Fr lo hi w w' := by
  subst hn
  rcases hown.1.2 with ⟨h, _⟩ | ⟨g', cap, cur, he, hb, hg, hnc, hcm, hsz, htk⟩
  · cases h
  · injection he with e1 e2 e3
    have e4 : g' = g := (congrArg Addr.block (Option.some.inj e1)).symm
    subst e4 e3
    have hlt := hown.lt g' (by simp [Value.ownBlock])
    have htk' : cur.toList.take zs.length = zs.map (Value.int .i64) := by simpa using htk
    have hcl := Lib.compact_length_le zs
    refine (Any.slices_Compact_int Try.laysNm220 g' 0 c zs w (Go.holds_of_blockI hg htk') (by omega) hnc).mono fun e w' ⟨he, q, hw⟩ => ?_
    have hw2 : w' = Go.Sort.grow (Go.Sort.putRow (Value.int .i64) (Go.Sort.ahead w q) g' 0 (Lib.compact zs ++ List.replicate (zs.length - (Lib.compact zs).length) 0).toArray) #[] := by rw [Go.Sort.grow_empty]; exact hw
    subst hw2
    refine ⟨he, ⟨⟨by simp, .inr ⟨g', c, _, rfl, hb, Go.heap_sortedI _ hg, by omega, hcm, by simp [Go.Sort.putCells, hsz], ?_⟩⟩, fun k hk => hown.2 k (by simpa [Value.ownBlock] using hk)⟩, Fr.grown (Go.grownBy_sortedI _) (fun k hk => by injection hk with hk; omega)⟩
    have ht := Go.take_putCellsI cur (Lib.compact zs ++ List.replicate (zs.length - (Lib.compact zs).length) 0) (by simp; omega)
    have h2 := congrArg (List.take (Lib.compact zs).length) ht
    rw [List.take_take, Nat.min_eq_left (by simp), List.map_append, List.take_left' (by simp)] at h2
    simpa using h2
set_option maxHeartbeats 2000000 in
theorem sMessagesLogged_any (es : List Ent) (A : Option Addr) (c : Nat) {l h : Nat} (w : World) (hr0 : RdE w l h A es) (hl : eszL es ≤ 1048576) :
    Calls Try.prog 35 #[.slice A es.length c] w fun e w' => ∃ A c, e = .returned (.tuple #[.slice A (mlL es).length c, .bool (logB es)]) ∧ Rd w' 0 w'.heap.size A (mlL es) ∧ (mlL es).length ≤ 1048576 ∧ Below w.heap.size w w' := by
  have hr := hr0.std
  clear hr0
  have hel : es.length ≤ 1048576 := Nat.le_trans (esz_len es) hl
  cases h1 : logB es with
  | false =>
    rw [mlL_no h1]
    go_enter Try.func35, Try.ntmps35
    go_wp2_with (go_at_call 73; (with_reducible refine (lgGood_v es A c _ hr hl _ h1).mono ?_); rintro e w1 ⟨rfl, hb1⟩)
    go_ret2
    (first | exact ⟨none, 0, rfl, Rd.nil, by simp, hb1⟩ | exact ⟨none, 0, rfl, Rd.nil, hb1⟩)
  | true =>
    rw [mlL_yes h1]
    have hdl := Lib.hid (dedL_len (mgs es es.length))
    have hml := Lib.hid (mgs_len es es.length)
    go_enter Try.func35, Try.ntmps35
    go_wp2_with (go_at_call 73; (with_reducible refine (lgGood_v es A c _ hr hl _ h1).mono ?_); rintro e w1 ⟨rfl, hb1⟩)
    have hr1 := hr.st hb1
    have hsz1 := hb1.size
    go_loopw [4, 12] (fun v i wr => ∃ (k : Nat) (Av : Option Addr) (cv : Nat), k ≤ es.length ∧ i = .int .i64 k ∧ v = .slice Av (dedL (mgs es k)).length cv ∧ Rd wr 0 wr.heap.size Av (dedL (mgs es k)) ∧ (dedL (mgs es k)).length ≤ cv ∧ cv ≤ 9223372036854775807 ∧ ((Av = none ∧ cv = 0) ∨ ∃ b off, Av = some ⟨b, off, none⟩) ∧ Below w1.heap.size w1 wr) (fun _ i _ => es.length - (intOf i).toNat)
    case atStart => exact ⟨0, none, 0, Nat.zero_le _, rfl, by rw [mgs_zero]; rfl, by rw [mgs_zero]; exact Rd.nil, by rw [mgs_zero]; exact Nat.le_refl _, by omega, .inl ⟨rfl, rfl⟩, Below.refl _ _⟩
    case round =>
      obtain ⟨k, Av, cv, hk, rfl, rfl, hrd, hcap, hc2, hA, hbr⟩ := hrel
      have hszr := hbr.size
      by_cases hlt : k < es.length
      · obtain ⟨b, off, rfl, _, _, hc⟩ := (hr1.st hbr) (by omega)
        obtain ⟨A1, c1, A2, c2, x0, x1, x2, x3, x4, r1, r2⟩ := hc k hlt
        have hd2 := dedL_len (mgs es k)
        have hm2 := mgs_len es k
        have hst : Hid (dedL (mgs es (k + 1)) = putL (dedL (mgs es k)) es[k].msg) := Lib.hid (by rw [mgs_succ es k hlt, dedL_snoc])
        have hne : Hid (0 < (putL (dedL (mgs es k)) es[k].msg).length) := Lib.hid (List.length_pos_of_mem (putL_mem.2 (.inr rfl)))
        clear hc
        go_wp2_with fail
        (with_reducible refine (l1Put_any (dedL (mgs es k)) Av cv es[k].msg _ (hrd.alloc _) (by omega) hcap hc2 hA).mono ?_)
        rintro e w2 ⟨A3, c3, l3, h3, rfl, q3, hor3, lc3, mc3, hb2⟩
        have s2 : wr.heap.size + 1 ≤ w2.heap.size := by have := hb2.size; simpa using this
        have hA3 : (A3 = none ∧ c3 = 0) ∨ ∃ b off, A3 = some ⟨b, off, none⟩ := by
          obtain ⟨b3, o3, e3, _⟩ := q3 hne.out
          exact .inr ⟨b3, o3, e3⟩
        have hq := Lib.hid q3.std
        have hB2 := Lib.hid ((hbr.alloc hszr (.cells #[.int .i64 es[k].time, .int .i64 es[k].msg, .int .i64 es[k].part, .slice A1 es[k].seen.length c1, .slice A2 es[k].shown.length c2] 81)).trans (hb2.mono (by simp; omega)))
        have hAH := Lib.hid hA3
        clear hb2 hbr q3 hrd hA3 hA
        go_wp2
        go_roundw
        case rel => exact ⟨k + 1, A3, c3, by omega, by go_num, by rw [hst.out], by rw [hst.out]; exact hq.out, by rw [hst.out]; exact lc3, mc3, hAH.out, hB2.out⟩
        case measure => simp [intOf]; omega
      · obtain rfl : k = es.length := by omega
        have hB := hb1.trans (hbr.mono hsz1)
        have hq := Lib.hid hrd
        clear hrd
        go_wp2
        go_ret2
        exact ⟨_, _, rfl, hq.out, by have := hdl.out; have := hml.out; omega, hB⟩
set_option maxHeartbeats 2000000 in
theorem iMessagesLogged_any (es : List Ent) (A : Option Addr) (c : Nat) {l h : Nat} (w : World) (hr0 : RdE w l h A es) (hl : eszL es ≤ 1048576) (hcap : es.length ≤ c) :
    Calls Try.prog 37 #[.slice A es.length c] w fun e w' => ∃ A c, e = .returned (.tuple #[.slice A (mlL es).length c, .bool (logB es)]) ∧ Own w' w.heap.size w'.heap.size (.slice A (mlL es).length c) (mlL es) ∧ (mlL es).length ≤ 1048576 ∧ Below w.heap.size w w' := by
  have hr := hr0.std
  clear hr0
  have hel : es.length ≤ 1048576 := Nat.le_trans (esz_len es) hl
  cases h1 : logB es with
  | false =>
    rw [mlL_no h1]
    go_enter Try.func37, Try.ntmps37
    go_wp2_with (go_at_call 75; (with_reducible refine (iIsLog_v es A c _ hr hl hcap _ h1).mono ?_); rintro e w1 ⟨rfl, hb1⟩)
    go_ret2
    (first | exact ⟨none, 0, rfl, Own.nil, by simp, hb1⟩ | exact ⟨none, 0, rfl, Own.nil, hb1⟩)
  | true =>
    rw [mlL_yes h1]
    have hdl := Lib.hid (dedL_len (mgs es es.length))
    have hml := Lib.hid (mgs_len es es.length)
    have hmn := Lib.hid (mgs_all es)
    have hcs := Lib.hid (compact_sort (mgs es es.length))
    go_enter Try.func37, Try.ntmps37
    go_wp2_with (go_at_call 75; (with_reducible refine (iIsLog_v es A c _ hr hl hcap _ h1).mono ?_); rintro e w1 ⟨rfl, hb1⟩)
    have hr1 := hr.st hb1
    have hsz1 := hb1.size
    go_loopw [4, 12] (fun v i wr => ∃ k : Nat, k ≤ es.length ∧ i = .int .i64 k ∧ Own wr w1.heap.size wr.heap.size v (mgs es k) ∧ Below w1.heap.size w1 wr) (fun _ i _ => es.length - (intOf i).toNat)
    case atStart => exact ⟨0, Nat.zero_le _, rfl, Own.nil, Below.refl _ _⟩
    case round =>
      obtain ⟨k, hk, rfl, hown, hbr⟩ := hrel
      have hszr := hbr.size
      by_cases hlt : k < es.length
      · obtain ⟨b, off, rfl, _, _, hc⟩ := (hr1.st hbr) (by omega)
        obtain ⟨A1, c1, A2, c2, x0, x1, x2, x3, x4, r1, r2⟩ := hc k hlt
        have hm2 := mgs_len es k
        have hst := Lib.hid (mgs_succ es k hlt)
        have ho2 := hown.alloc (.cells #[.int .i64 es[k].time, .int .i64 es[k].msg, .int .i64 es[k].part, .slice A1 es[k].seen.length c1, .slice A2 es[k].shown.length c2] 81)
        have hB2 := hbr.alloc hszr (.cells #[.int .i64 es[k].time, .int .i64 es[k].msg, .int .i64 es[k].part, .slice A1 es[k].seen.length c1, .slice A2 es[k].shown.length c2] 81)
        have esz1 : (wr.alloc (.cells #[.int .i64 es[k].time, .int .i64 es[k].msg, .int .i64 es[k].part, .slice A1 es[k].seen.length c1, .slice A2 es[k].shown.length c2] 81)).heap.size = wr.heap.size + 1 := by simp
        have hone := (Rd.one (wr.alloc (.cells #[.int .i64 es[k].time, .int .i64 es[k].msg, .int .i64 es[k].part, .slice A1 es[k].seen.length c1, .slice A2 es[k].shown.length c2] 81)) #[.int .i64 es[k].msg] 3 [es[k].msg] rfl).std
        rw [esz1] at hone
        clear hc hown hbr esz1
        go_wp2_with (at_builtin; refine wp_append_ints rfl (.tmp 16) (.tmp 19) rfl rfl (ho2.alloc _) (ys := [es[k].msg]) rfl hone (by simp; omega) (by simp; omega) ?_; intro v3 w3 hown3 hg3 hb3 hat3)
        have hB3 := Lib.hid ((hB2.alloc (by first | omega | (simp <;> omega)) _).trans (hb3.mono (by first | omega | (simp <;> omega))))
        have ho3 := Lib.hid hown3
        clear hown3 hg3 hb3 hat3 hB2 ho2 hone
        go_roundw
        case rel => exact ⟨k + 1, by omega, by go_num, by rw [hst.out]; exact ho3.out, hB3.out⟩
        case measure => simp [intOf]; omega
      · obtain rfl : k = es.length := by omega
        by_cases h0 : es.length = 0
        · obtain rfl := List.eq_nil_of_length_eq_zero h0
          rw [show mgs ([] : List Ent) ([] : List Ent).length = [] from rfl] at hown
          rcases hown.1.2 with ⟨rfl, _⟩ | ⟨g, cap, cur, rfl, q1, q2, q3, q4, _⟩
          · have hB := hb1.trans (hbr.mono hsz1)
            clear hown
            go_wp2_with (first | (go_at_call 67; (with_reducible refine (Sort_none none 0 _).mono ?_); rintro e w' ⟨rfl, rfl⟩) | (go_at_call 68; (with_reducible refine (Compact_none none 0 _).mono ?_); rintro e w' ⟨rfl, rfl⟩))
            go_ret2
            exact ⟨none, 0, rfl, Own.nil, by have := hdl.out; have := hml.out; omega, hB⟩
          · have hB := hb1.trans (hbr.mono hsz1)
            have ho := Lib.hid hown
            clear hown
            go_wp2_with (first | (go_at_call 67; (with_reducible refine (Sort_none (some ⟨g, 0, none⟩) cap _).mono ?_); rintro e w' ⟨rfl, rfl⟩) | (go_at_call 68; (with_reducible refine (Compact_none (some ⟨g, 0, none⟩) cap _).mono ?_); rintro e w' ⟨rfl, rfl⟩))
            go_ret2
            exact ⟨_, _, rfl, ho.out.mono hsz1 (Nat.le_refl _), by have := hdl.out; have := hml.out; omega, hB⟩
        · obtain ⟨g, cv, rfl, gl, gh, _, _, _⟩ := hown.at_ (by rw [hmn.out]; omega)
          have hmle := mgs_len es es.length
          have hBr := hb1.trans (hbr.mono hsz1)
          go_wp2_with fail
          (with_reducible refine (Sort_own (mgs es es.length) g cv _ hown (by omega)).mono ?_)
          rintro e w2 ⟨rfl, o2, f2⟩
          have s2 := f2.size
          have hB2 := hBr.trans (f2.below hsz1 (by omega) : Below w.heap.size wr w2)
          clear hown f2
          go_wp2_with fail
          (with_reducible refine (Compact_n (srtL (mgs es es.length)) (mgs es es.length).length g cv _ (by rw [srt_len]) o2 (by omega)).mono ?_)
          rintro e w3 ⟨rfl, o3, f3⟩
          have hB3 := hB2.trans (f3.below hsz1 (by omega) : Below w.heap.size w2 w3)
          rw [hcs.out] at o3
          have s3 := f3.size
          have ho := Lib.hid o3
          clear o2 o3 f3
          go_wp2
          go_ret2
          exact ⟨_, _, by rw [hcs.out]; rfl, ho.out.mono hsz1 (by omega), by have := hdl.out; have := hml.out; omega, hB3⟩
end Go.Proofs.Ytdonggpcabkmlaa
