/-
  The contract of the program's JoinLogs. The conditions are bounds on lengths.
-/
import Derived.Test.YteajjbfecpffeaaStabE
import Derived.Test.YteajjbfecpffeaaAppE
namespace Go.Proofs.Yteajjbfecpffeaa
open Go.RowKit Go.ChangeShapes Go.WideShapes Go.Sort
set_option linter.unusedVariables false
set_option linter.unusedSimpArgs false

/-- a valid log is in order of time -/
theorem log_timed {es : List Ent} (h : logB es = true) : timed es := by
  have step : ∀ k (hk : k + 1 < es.length), es[k].time ≤ es[k + 1].time := by
    intro k hk
    have h1 := (logB_iff.1 h).2 (k + 1) hk
    simp only [okE, Bool.and_eq_true, Bool.or_eq_true, decide_eq_true_eq, Nat.add_sub_cancel, beq_iff_eq] at h1
    have h2 := h1.2.2.resolve_left (by omega)
    rwa [eAt_get (by omega), eAt_get hk] at h2
  intro i j hi hj hij
  obtain ⟨m, rfl⟩ : ∃ m, j = i + 1 + m := ⟨j - (i + 1), by omega⟩
  induction m with
  | zero => exact step i hj
  | succ m ih => exact Int.le_trans (ih (by omega) (by omega)) (step (i + 1 + m) hj)
section
variable {ops : Array Oper} {rest : List Oper} {o : Oper} {a : Act} {Q : Exit → Act → World → Prop} {w : World} {lo hi : Nat} {v : Value} {rows rows2 : List (List Value)}
/-- 'append(l, m...)' of two slices of entries that calls have made -/
theorem wp_append_two (hgd : o.guard = none) (s x : Operand) {lo2 hi2 : Nat} {u : Value} (ho : o.op = .call { callee := .builtin .append, args := #[s, x], argTypes := #[24, 24] })
    (hs : a.eval s = v) (hown : OwnR w lo hi 49 5 v rows) (hx : a.eval x = u) (hown2 : OwnR w lo2 hi2 49 5 u rows2) (hone : ∀ r ∈ rows2, ∀ z ∈ r, z.oneCell' = true)
    (hlen : rows.length + rows2.length ≤ 1073741824) (hlo : lo ≤ w.heap.size)
    (h : ∀ v' w', OwnR w' lo w'.heap.size 49 5 v' (rows ++ rows2) → w.grownBy w' v.ownBlock → Below lo w w' → wpList Try.prog ops Q rest (a.put o.dst v') w') : wpList Try.prog ops Q (o :: rest) a w := by
  obtain ⟨A2, c2, rfl, hc2, -, hnil, hcells⟩ := hown2.cells
  rcases Nat.eq_zero_or_pos rows2.length with h0 | h0
  · obtain rfl : rows2 = [] := List.eq_nil_of_length_eq_zero h0
    cases A2 with
    | none =>
      refine wpList_plain hgd fun K hK => ?_
      obtain ⟨i0, hi0, hz0, hz1, hz2⟩ := info_parts entInfo
      have hrun := run_append_none (P := Try.prog) w lo _ o.type _ i0 5 Try.underlying24 hi0 v _ _ hown.1 c2
      unfold Oper.wp execOp
      simp only [ho, resolve, invoke, builtin, Sem.run_bind, Sem.run_pure, Result.andThen_ok, List.map_toArray, List.map_cons, List.map_nil, hs, hx, List.length_nil, hrun]
      exact hK _ _ (h v w (by rw [List.append_nil]; exact hown.inH) (World.grownBy.refl w _) (Below.refl _ _))
    | some ad =>
      rcases hown2.1.2 with ⟨e, _⟩ | ⟨g, cap, cur, e, _⟩
      · cases e
      · injection e with e
        injection e with e
        subst e
        exact wp_append_rows (news := []) hgd s x ho Try.underlying24 entInfo rfl (by omega) hs hown hx (fun j hj => absurd hj (by simp)) (by simp) (by simp) (by simpa using hlen) (by omega) hlo fun v' w' q1 q2 q3 _ => h v' w' q1 q2 q3
  · obtain ⟨g, rfl, -, -, -, -, hc⟩ := hcells h0
    exact wp_append_rows (news := rows2) hgd s x ho Try.underlying24 entInfo rfl (by omega) hs hown hx hc hown2.2.1 hone hlen (by omega) hlo fun v' w' q1 q2 q3 _ => h v' w' q1 q2 q3
end
theorem insSort_none (A : Option Addr) (c : Nat) (fv : Value) (w : World) : Calls Try.prog 126 #[.slice A 0 c, .int .i64 0, .int .i64 0, fv] w fun e w' => e = .returned (.tuple #[]) ∧ w = w' := by
  go_enter Try.func126, Try.ntmps126
  go_wp2_with fail
  go_loop [8] (fun s => s = .int .i64 1) (fun _ => 0)
  case atStart => exact rfl
  case round =>
    obtain rfl := hrel
    go_wp2_with fail
    go_end0
    exact ⟨rfl, rfl⟩
theorem stable_none (A : Option Addr) (c : Nat) (fv : Value) (w : World) : Calls Try.prog 95 #[.slice A 0 c, .int .i64 0, fv] w fun e w' => e = .returned (.tuple #[]) ∧ w = w' := by
  go_enter Try.func95, Try.ntmps95
  go_wp2_with fail
  go_loop [7, 8] (fun s t => s = .int .i64 0 ∧ t = .int .i64 20) (fun _ _ => 0)
  case atStart => exact ⟨rfl, rfl⟩
  case round =>
    obtain ⟨rfl, rfl⟩ := hrel
    go_wp2_with fail
    (with_reducible refine (insSort_none A c fv _).mono ?_)
    rintro e w1 ⟨rfl, rfl⟩
    go_wp2_with fail
    go_loop [6] (fun s => s = .int .i64 20) (fun _ => 0)
    case atStart => exact rfl
    case round =>
      obtain rfl := hrel
      go_wp2_with fail
      go_end0
      exact ⟨rfl, rfl⟩
theorem sortStable_none (A : Option Addr) (c : Nat) (fv : Value) (w : World) : Calls Try.prog 48 #[.slice A 0 c, fv] w fun e w' => e = .returned (.tuple #[]) ∧ w = w' := by
  go_enter Try.func48, Try.ntmps48
  go_wp2_with fail
  (with_reducible refine (stable_none A c fv _).mono ?_)
  rintro e w1 ⟨rfl, rfl⟩
  go_wp2_with fail
  go_end0
  exact ⟨rfl, rfl⟩
/-- the sort at whatever number of entries -/
theorem sortStable_any (a b : List Ent) {lo hi n c : Nat} {A : Option Addr} {rows : List (List Value)} (w : World) (ho : OwnR w lo hi 49 5 (.slice A n c) rows) (he : EntsOwn w lo hi (a ++ b) rows) (ha : timed a) (hb : timed b) (hl : rows.length ≤ 1000000000) (hh : hi ≤ w.heap.size) :
    Calls Try.prog 48 #[.slice A n c, .func (.func 49) #[] #[]] w fun e w' => e = .returned (.tuple #[]) ∧ ∃ rows', OwnR w' lo w'.heap.size 49 5 (.slice A n c) rows' ∧ EntsOwn w' lo w'.heap.size (jM a b) rows' ∧ Below lo w w' := by
  rcases Nat.eq_zero_or_pos rows.length with h0 | h0
  · obtain ⟨A', c', e, _⟩ := ho.cells
    have hn : n = 0 := by injection e with e1 e2 e3; omega
    subst hn
    obtain rfl : rows = [] := List.eq_nil_of_length_eq_zero h0
    have hab : a ++ b = [] := List.eq_nil_of_length_eq_zero (by rw [← he.len]; rfl)
    obtain ⟨rfl, rfl⟩ := List.append_eq_nil_iff.1 hab
    refine (sortStable_none A c _ w).mono ?_
    rintro e w' ⟨hee, rfl⟩
    have h00 : jM [] [] = [] := by simp [jM]
    exact ⟨hee, [], ho.inH, by rw [h00]; exact EntsOwn.nil, Below.refl _ _⟩
  · obtain ⟨A', c', e, _, _, _, hx⟩ := ho.cells
    obtain ⟨g, hg, _⟩ := hx h0
    have hA : A = some ⟨g, 0, none⟩ := by injection e with e1 e2 e3; rw [e1, hg]
    subst hA
    exact sortStable_ents a b w ho he ha hb h0 hl hh
set_option maxRecDepth 100000 in
set_option maxHeartbeats 8000000 in
theorem iJoinLogs_any (es : List Ent) (A : Option Addr) (c : Nat) (fs : List Ent) (B : Option Addr) (d : Nat) {l h l' h' : Nat} (w : World) (hr0 : RdE w l h A es) (hs0 : RdE w l' h' B fs) (hl : eszL es ≤ 1048576) (hl' : eszL fs ≤ 1048576) (hca : es.length ≤ c) (hcb : fs.length ≤ d) :
    Calls Try.prog 9 #[.slice A es.length c, .slice B fs.length d] w fun e w' => ∃ A' c', e = .returned (.tuple #[.slice A' (jlL es fs).length c', .bool (jlB es fs)]) ∧ OwnE w' w.heap.size w'.heap.size (.slice A' (jlL es fs).length c') (jlL es fs) ∧ eszL (jlL es fs) ≤ 1048576 ∧ Below w.heap.size w w' := by
  have hr := hr0.std
  have hs := hs0.std
  clear hr0 hs0
  have hsz := Lib.hid (jl_esz (a := es) (b := fs))
  cases q1 : logB es with
  | false =>
    have hq := jlB_a (b := fs) q1
    rw [jlL_no hq, hq]
    clear hq hsz
    go_enter Try.func9, Try.ntmps9
    go_wp2_with fail
    (with_reducible refine (iIsLog_v es A c _ hr hl hca _ q1).mono ?_)
    rintro e w1 ⟨rfl, hb1⟩
    have hBH := Lib.hid hb1
    clear hb1 hr hs
    go_wp2_with fail
    go_ret2
    exact ⟨none, 0, rfl, OwnE.nil, by rw [esz_nil]; omega, hBH.out⟩
  | true =>
    cases q2 : logB fs with
    | false =>
      have hq := jlB_b (a := es) q2
      rw [jlL_no hq, hq]
      clear hq hsz
      go_enter Try.func9, Try.ntmps9
      go_wp2_with fail
      (with_reducible refine (iIsLog_v es A c _ hr hl hca _ q1).mono ?_)
      rintro e w1 ⟨rfl, hb1⟩
      have hs1 := hs.st hb1
      have hBH := Lib.hid hb1
      clear hb1 hr hs q1
      go_wp2_with fail
      (with_reducible refine (iIsLog_v fs B d _ hs1 hl' hcb _ q2).mono ?_)
      rintro e w2 ⟨rfl, hb2⟩
      have hB2 := Lib.hid (hBH.out.trans (hb2.mono hBH.out.size))
      clear hb2 hs1 q2
      go_wp2_with fail
      go_ret2
      exact ⟨none, 0, rfl, OwnE.nil, by rw [esz_nil]; omega, hB2.out⟩
    | true =>
      have hle := log_len q1
      have hlf := log_len q2
      have hze := log_esz q1
      have hzf := log_esz q2
      have hte := Lib.hid (log_timed q1)
      have htf := Lib.hid (log_timed q2)
      obtain ⟨v, hv⟩ : ∃ v, logB (jM es fs) = v := ⟨_, rfl⟩
      have hjB := jlB_v q1 q2 hv
      have hjL := jlL_v hjB
      rw [hjB]
      obtain ⟨R, hR⟩ : ∃ R, R = jlL es fs := ⟨_, rfl⟩
      rw [← hR] at hjL hsz ⊢
      have hvH := Lib.hid hv
      have hjH := Lib.hid hjL
      have hme := Lib.hid (jM_esz es fs)
      have hml := Lib.hid (jM_len es fs)
      clear hv hjB hjL hR
      go_enter Try.func9, Try.ntmps9
      go_wp2_with fail
      (with_reducible refine (iIsLog_v es A c _ hr hl hca _ q1).mono ?_)
      rintro e w1 ⟨rfl, hb1⟩
      have s1 := hb1.size
      have hr1 := hr.st hb1
      have hs1 := hs.st hb1
      have hB1 := Lib.hid hb1
      clear hb1 hr hs q1
      go_wp2_with fail
      (with_reducible refine (iIsLog_v fs B d _ hs1 hl' hcb _ q2).mono ?_)
      rintro e w2 ⟨rfl, hb2⟩
      have s2 := hb2.size
      have hr2 := hr1.st hb2
      have hs2 := hs1.st hb2
      have hB2 := Lib.hid (hB1.out.trans (hb2.mono s1))
      clear hb2 hr1 hs1 hB1 q2
      go_wp2_with fail
      (with_reducible refine (cloneLog_any es A c _ hr2 hl).mono ?_)
      rintro e w3 ⟨v3, rows3, rfl, o3, e3, hb3⟩
      have s3 := hb3.size
      have hs3 := hs2.st hb3
      have hB3 := Lib.hid (hB2.out.trans (hb3.mono (by omega)))
      clear hb3 hr2 hs2 hB2
      go_wp2_with fail
      (with_reducible refine (cloneLog_any fs B d _ hs3 hl').mono ?_)
      rintro e w4 ⟨v4, rows4, rfl, o4, e4, hb4⟩
      have s4 := hb4.size
      have o3b := o3.st hb4
      have e3b := e3.st hb4
      have hB4 := Lib.hid (hB3.out.trans (hb4.mono (by omega)))
      have hl3 : rows3.length ≤ 30 := by rw [e3.len]; exact hle
      have hl4 : rows4.length ≤ 30 := by rw [e4.len]; exact hlf
      have hone := Lib.hid e4.rws.oneC
      have o3H := Lib.hid o3b
      have e3H := Lib.hid e3b
      have o4H := Lib.hid o4
      have e4H := Lib.hid e4
      clear hb4 hs3 hB3 o3 e3 o3b e3b o4 e4
      go_wp2_with (at_builtin; refine wp_append_two rfl (.tmp 16) (.tmp 18) rfl (by rfl) o3H.out (by rfl) o4H.out hone.out (by omega) (by omega) ?_; intro v5 w5 o5 hg5 hb5; (obtain ⟨A5, c5, rfl, -⟩ := o5.cells); (obtain ⟨n5, hn5⟩ : ∃ n5, n5 = (rows3 ++ rows4).length := ⟨_, rfl⟩); rw [← hn5] at o5 ⊢; (have hn5H := Lib.hid hn5); clear hn5)
      have s5 := hb5.size
      have e5 := ((e3H.out.append e4H.out (Nat.le_refl _) (by omega) (by omega)).keepI (KeepI.grown o3H.out hg5 (by decide))).mono (Nat.le_refl _) (show w4.heap.size ≤ w5.heap.size by omega)
      have hB5 := Lib.hid (hB4.out.trans (hb5.mono (by omega)))
      have hl5 : (rows3 ++ rows4).length ≤ 1000000000 := by rw [List.length_append]; omega
      have o5b := o5.mono (show w2.heap.size ≤ w2.heap.size from Nat.le_refl _) (Nat.le_refl _)
      clear o3H e3H o4H e4H hone hg5 hb5 hB4 o5
      (with_reducible refine (sortStable_any es fs _ o5b e5 hte.out htf.out hl5 (Nat.le_refl _)).mono ?_)
      rintro e w6 ⟨rfl, rows6, o6, e6, hb6⟩
      have s6 := hb6.size
      have hB6 := Lib.hid (hB5.out.trans (hb6.mono (by omega)))
      have hrd := (o6.rdE e6.rws).1
      have hn6 : n5 = (jM es fs).length := (o6.rdE e6.rws).2.1
      have hc6 : n5 ≤ c5 := (o6.rdE e6.rws).2.2.1
      have hO6 := Lib.hid (EntsOwn.ownE o6 e6)
      have hn6H := Lib.hid hn6
      clear hb6 hB5 o6 e6 o5b e5 hl5 hn6 hn5H
      go_wp2_with fail
      (with_reducible refine (checkedLog_v (jM es fs) A5 n5 c5 _ hrd hn6H.out (by have := hme.out; omega) hc6 v hvH.out R hjH.out).mono ?_)
      rintro e w7 ⟨A7, c7, rfl, hcs, hb7⟩
      have hB7 := Lib.hid (hB6.out.trans (hb7.mono (by omega)))
      have hO7 := Lib.hid (hO6.out.st hb7)
      have hsH := Lib.hid (show w.heap.size ≤ w2.heap.size ∧ w6.heap.size ≤ w7.heap.size from ⟨by omega, hb7.size⟩)
      clear hb7 hrd hB6 hO6
      go_wp2_with fail
      go_ret2
      refine ⟨A7, c7, rfl, ?_, hsz.out, hB7.out⟩
      have hR := hjH.out
      rcases hcs with ⟨hv, hA, hc⟩ | ⟨hv, hA, hc⟩
      · rw [if_pos hv] at hR
        rw [hA, hc, hR]
        have := hO7.out.mono hsH.out.1 hsH.out.2
        rwa [hn6H.out] at this
      · rw [if_neg (by simp [hv])] at hR
        rw [hA, hc, hR]
        exact OwnE.nil
end Go.Proofs.Yteajjbfecpffeaa
