/-
  Contracts and plain laws that the walk uses, several texts in one. The conditions are named ahead of each.
-/
import Derived.Test.YtjhbffndiaggmaaGreatDoorZLIsLogI
import Derived.Test.YtjhbffndiaggmaaGreatDoorBL3
import Derived.Test.YtjhbffndiaggmaaGreatDoorBL20
import Derived.Test.YtjhbffndiaggmaaGreatDoorBL22
import Derived.Deep.RegionHeld3
import Derived.IntWalk

/-
  Contracts of FindEntry and ShownSignals, in the reference and in the program. The conditions are bounds on lengths.
-/
namespace Go.Proofs.YtjhbffndiaggmaaGreatDoor
open Go.RowKit Go.ChangeShapes Go.WideShapes
set_option linter.unusedVariables false
set_option linter.unusedSimpArgs false

def feB (es : List Ent) (m p : Int) : Bool := logB es && decide (0 ≤ findI es m p)
def feV (es : List Ent) (m p : Int) : Int := if feB es m p then findI es m p else 0
theorem feB_bad {es : List Ent} {m p : Int} (h : logB es = false) : feB es m p = false := by simp [feB, h]
theorem feB_no {es : List Ent} {m p : Int} (h : ¬ 0 ≤ findI es m p) : feB es m p = false := by simp [feB, h]
theorem feB_yes {es : List Ent} {m p : Int} (h : logB es = true) (h2 : 0 ≤ findI es m p) : feB es m p = true := by simp [feB, h, h2]
theorem feV_no {es : List Ent} {m p : Int} (h : feB es m p = false) : feV es m p = 0 := by simp [feV, h]
theorem feV_yes {es : List Ent} {m p : Int} (h : feB es m p = true) : feV es m p = findI es m p := by simp [feV, h]

def shSum (es : List Ent) (k : Nat) : Nat := ((es.take k).map fun e => e.shown.length).sum
theorem shSum_zero (es : List Ent) : shSum es 0 = 0 := by simp [shSum]
theorem shSum_succ (es : List Ent) (k : Nat) (h : k < es.length) : shSum es (k + 1) = shSum es k + es[k].shown.length := by
  unfold shSum; rw [List.take_succ_eq_append_getElem h, List.map_append, List.sum_append]; simp
theorem shown_le (l : List Ent) : (l.map fun e => e.shown.length).sum ≤ (l.map fun e => e.seen.length + e.shown.length).sum := by
  induction l with
  | nil => simp
  | cons a l ih => simp; omega
theorem shSum_le (es : List Ent) (k : Nat) : shSum es k ≤ eszL es := by
  have h1 := shown_le (es.take k)
  have h2 := psum_le es k
  unfold shSum
  unfold psum at h2
  unfold eszL psum
  omega
def ssV (es : List Ent) : Int := if logB es then (shSum es es.length : Int) else 0
theorem ssV_no {es : List Ent} (h : logB es = false) : ssV es = 0 := by simp [ssV, h]
theorem ssV_yes {es : List Ent} (h : logB es = true) : ssV es = (shSum es es.length : Int) := by simp [ssV, h]
theorem lgGood_v (es : List Ent) (A : Option Addr) (c : Nat) {l h : Nat} (w : World) (hr : RdE w l h A es) (hl : eszL es ≤ 1048576) (v : Bool) (hv : logB es = v) :
    Calls Tryz.prog 128 #[.slice A es.length c] w fun e w' => e = .returned (.bool v) ∧ Below w.heap.size w w' := by
  rw [← hv]; exact lgGood_any es A c w hr hl
theorem iIsLog_v (es : List Ent) (A : Option Addr) (c : Nat) {l h : Nat} (w : World) (hr : RdE w l h A es) (hl : eszL es ≤ 1048576) (hcap : es.length ≤ c) (v : Bool) (hv : logB es = v) :
    Calls Tryz.prog 56 #[.slice A es.length c] w fun e w' => e = .returned (.bool v) ∧ Below w.heap.size w w' := by
  rw [← hv]; exact iIsLog_any es A c w hr hl hcap

set_option maxHeartbeats 1000000 in
theorem sFindEntry_any (es : List Ent) (A : Option Addr) (c : Nat) (m p : Int) {l h : Nat} (w : World) (hr0 : RdE w l h A es) (hl : eszL es ≤ 1048576) :
    Calls Tryz.prog 71 #[.slice A es.length c, .int .i64 m, .int .i64 p] w fun e w' => e = .returned (.tuple #[.int .i64 (feV es m p), .bool (feB es m p)]) ∧ Below w.heap.size w w' := by
  have hr := hr0.std
  clear hr0
  have hel : es.length ≤ 1048576 := Nat.le_trans (esz_len es) hl
  cases h1 : logB es with
  | false =>
    have hq := Lib.hid (feB_bad (m := m) (p := p) h1)
    have hv := Lib.hid (feV_no hq.out)
    go_enter Tryz.func71, Tryz.ntmps71
    go_wp2_with (go_at_call 128; (with_reducible refine (lgGood_v es A c _ hr hl _ h1).mono ?_); rintro e w1 ⟨rfl, hb1⟩)
    go_ret2
    exact ⟨ret_ib hv.out.symm hq.out.symm, hb1⟩
  | true =>
    obtain ⟨v, hv0⟩ : ∃ v, findI es m p = v := ⟨_, rfl⟩
    have hv : Hid (findI es m p = v) := Lib.hid hv0
    by_cases h2 : 0 ≤ v
    · have hq := Lib.hid (feB_yes h1 (by rw [hv0]; exact h2))
      have hw : Hid (feV es m p = v) := Lib.hid ((feV_yes hq.out).trans hv0)
      have h3 : ¬ v < 0 := by omega
      clear hv0
      go_enter Tryz.func71, Tryz.ntmps71
      go_wp2_with (first | (go_at_call 128; (with_reducible refine (lgGood_v es A c _ hr hl _ h1).mono ?_); rintro e w1 ⟨rfl, hb1⟩) | (go_at_call 142; (with_reducible refine (lgFind_v es A c m p _ ((hr.st hb1).st hb2) hel v hv.out).mono ?_); rintro e w3 ⟨rfl, hb3⟩) | (go_at_call 142; (with_reducible refine (lgFind_v es A c m p _ (hr.st hb1) hel v hv.out).mono ?_); rintro e w2 ⟨rfl, hb2⟩))
      go_ret2
      exact ⟨ret_ib hw.out.symm hq.out.symm, hb1.trans ((hb2.mono hb1.size).trans (hb3.mono (by have := hb1.size; have := hb2.size; omega)))⟩
    · have hq := Lib.hid (feB_no (es := es) (m := m) (p := p) (by rw [hv0]; exact h2))
      have hw := Lib.hid (feV_no hq.out)
      have h3 : v < 0 := by omega
      clear hv0
      go_enter Tryz.func71, Tryz.ntmps71
      go_wp2_with (first | (go_at_call 128; (with_reducible refine (lgGood_v es A c _ hr hl _ h1).mono ?_); rintro e w1 ⟨rfl, hb1⟩) | (go_at_call 142; (with_reducible refine (lgFind_v es A c m p _ (hr.st hb1) hel v hv.out).mono ?_); rintro e w2 ⟨rfl, hb2⟩))
      go_ret2
      exact ⟨ret_ib hw.out.symm hq.out.symm, hb1.trans (hb2.mono hb1.size)⟩
set_option maxHeartbeats 1000000 in
theorem iFindEntry_any (es : List Ent) (A : Option Addr) (c : Nat) (m p : Int) {l h : Nat} (w : World) (hr0 : RdE w l h A es) (hl : eszL es ≤ 1048576) (hcap : es.length ≤ c) :
    Calls Tryz.prog 59 #[.slice A es.length c, .int .i64 m, .int .i64 p] w fun e w' => e = .returned (.tuple #[.int .i64 (feV es m p), .bool (feB es m p)]) ∧ Below w.heap.size w w' := by
  have hr := hr0.std
  clear hr0
  have hel : es.length ≤ 1048576 := Nat.le_trans (esz_len es) hl
  cases h1 : logB es with
  | false =>
    have hq := Lib.hid (feB_bad (m := m) (p := p) h1)
    have hv := Lib.hid (feV_no hq.out)
    go_enter Tryz.func59, Tryz.ntmps59
    go_wp2_with (go_at_call 56; (with_reducible refine (iIsLog_v es A c _ hr hl hcap _ h1).mono ?_); rintro e w1 ⟨rfl, hb1⟩)
    go_ret2
    exact ⟨ret_ib hv.out.symm hq.out.symm, hb1⟩
  | true =>
    obtain ⟨v, hv0⟩ : ∃ v, findI es m p = v := ⟨_, rfl⟩
    have hv : Hid (findI es m p = v) := Lib.hid hv0
    by_cases h2 : 0 ≤ v
    · have hq := Lib.hid (feB_yes h1 (by rw [hv0]; exact h2))
      have hw : Hid (feV es m p = v) := Lib.hid ((feV_yes hq.out).trans hv0)
      have h3 : ¬ v < 0 := by omega
      clear hv0
      go_enter Tryz.func59, Tryz.ntmps59
      go_wp2_with (first | (go_at_call 56; (with_reducible refine (iIsLog_v es A c _ hr hl hcap _ h1).mono ?_); rintro e w1 ⟨rfl, hb1⟩) | (go_at_call 130; (with_reducible refine (entryIndex_n es A _ c m p _ (hr.st hb1) rfl hel v hv.out).mono ?_); rintro e w2 ⟨rfl, hb2⟩))
      go_ret2
      exact ⟨ret_ib hw.out.symm hq.out.symm, hb1.trans (hb2.mono hb1.size)⟩
    · have hq := Lib.hid (feB_no (es := es) (m := m) (p := p) (by rw [hv0]; exact h2))
      have hw := Lib.hid (feV_no hq.out)
      have h3 : v < 0 := by omega
      clear hv0
      go_enter Tryz.func59, Tryz.ntmps59
      go_wp2_with (first | (go_at_call 56; (with_reducible refine (iIsLog_v es A c _ hr hl hcap _ h1).mono ?_); rintro e w1 ⟨rfl, hb1⟩) | (go_at_call 130; (with_reducible refine (entryIndex_n es A _ c m p _ (hr.st hb1) rfl hel v hv.out).mono ?_); rintro e w2 ⟨rfl, hb2⟩))
      go_ret2
      exact ⟨ret_ib hw.out.symm hq.out.symm, hb1.trans (hb2.mono hb1.size)⟩
set_option maxHeartbeats 1000000 in
theorem iShownSignals_any (es : List Ent) (A : Option Addr) (c : Nat) {l h : Nat} (w : World) (hr0 : RdE w l h A es) (hl : eszL es ≤ 1048576) (hcap : es.length ≤ c) :
    Calls Tryz.prog 67 #[.slice A es.length c] w fun e w' => e = .returned (.tuple #[.int .i64 (ssV es), .bool (logB es)]) ∧ Below w.heap.size w w' := by
  have hr := hr0.std
  clear hr0
  have hel : es.length ≤ 1048576 := Nat.le_trans (esz_len es) hl
  cases h1 : logB es with
  | false =>
    have hv := Lib.hid (ssV_no h1)
    go_enter Tryz.func67, Tryz.ntmps67
    go_wp2_with (go_at_call 56; (with_reducible refine (iIsLog_v es A c _ hr hl hcap _ h1).mono ?_); rintro e w1 ⟨rfl, hb1⟩)
    go_ret2
    exact ⟨ret_ib hv.out.symm rfl, hb1⟩
  | true =>
    have hv := Lib.hid (ssV_yes h1)
    go_enter Tryz.func67, Tryz.ntmps67
    go_wp2_with (go_at_call 56; (with_reducible refine (iIsLog_v es A c _ hr hl hcap _ h1).mono ?_); rintro e w1 ⟨rfl, hb1⟩)
    have hr1 := hr.st hb1
    go_loopw [4, 6, 12] (fun q _ i wr => ∃ k : Nat, k ≤ es.length ∧ i = .int .i64 k ∧ q = .int .i64 (shSum es k : Int) ∧ Below w.heap.size w1 wr) (fun _ _ i _ => es.length - (intOf i).toNat)
    case atStart => exact ⟨0, Nat.zero_le _, rfl, by rw [shSum_zero]; rfl, Below.refl _ _⟩
    case round =>
      obtain ⟨k, hk, rfl, rfl, hbr⟩ := hrel
      by_cases hlt : k < es.length
      · obtain ⟨b, off, rfl, _, _, hc⟩ := (hr1.below hbr (Nat.le_refl _)) (by omega)
        obtain ⟨A1, c1, A2, c2, x0, x1, x2, x3, x4, r1, r2⟩ := hc k hlt
        have hszr := hbr.size
        have hsz1 := hb1.size
        have hb2 : ∀ o : Obj, Below w.heap.size w1 (wr.alloc o) := fun o => hbr.alloc (by omega) o
        have t1 := shSum_le es k
        have t2 := shSum_le es (k + 1)
        have t3 := shSum_succ es k hlt
        have t4 : (shSum es k : Int) + (es[k].shown.length : Int) ≤ 1048576 := by omega
        have t5 : Hid ((shSum es (k + 1) : Int) = (shSum es k : Int) + (es[k].shown.length : Int)) := Lib.hid (by rw [t3, Int.natCast_add])
        have t6 : (0 : Int) ≤ (shSum es k : Int) := by omega
        clear hc t1 t2 t3
        go_wp2
        go_roundw
        case rel => exact ⟨k + 1, by omega, by go_num, by rw [t5.out], hb2 _⟩
        case measure => simp [intOf]; omega
      · obtain rfl : k = es.length := by omega
        go_wp2
        go_ret2
        exact ⟨ret_ib hv.out.symm rfl, hb1.trans hbr⟩
end Go.Proofs.YtjhbffndiaggmaaGreatDoor

/-
  Entries put behind the rows of a slice that a call has made. The conditions are bounds on lengths.
-/
namespace Go.Proofs.YtjhbffndiaggmaaGreatDoor
open Go.RowKit Go.ChangeShapes Go.WideShapes
set_option linter.unusedVariables false
set_option linter.unusedSimpArgs false

section
variable {w w' : World} {lo hi : Nat} {v : Value} {rows : List (List Value)} {es : List Ent} {A : Option Addr} {c : Nat}
/-- 'append(v, l...)' : the entries that l reads as, behind the rows of v -/
theorem run_append_ents (ty : TypeId) (hown : OwnR w lo hi 74 5 v rows) {lA hA : Nat} (hr : RdE w lA hA A es) (hlen : rows.length + es.length ≤ 1073741824) (hlo : lo ≤ w.heap.size) :
    ∃ v' w' rows2, (Builtin.append_ #[65, 65] ty #[v, .slice A es.length c]).run Tryz.prog w = .ok v' w' ∧ EntRows w lA hA es rows2 ∧ OwnR w' lo w'.heap.size 74 5 v' (rows ++ rows2) ∧ w.grownBy w' v.ownBlock ∧ Below lo w w' ∧
      (v'.ownBlock = v.ownBlock ∨ v'.ownBlock = some w.heap.size) := by
  obtain ⟨i0, hi0, hz0, hz1, hz2⟩ := info_parts entInfo
  have hb : ∀ w', w.grownBy w' v.ownBlock → Below lo w w' := fun w' hg => (Below.refl lo w).grown hg hlo (fun k hk => (hown.lt k hk).1)
  rcases A with _ | ad
  · have hm : es = [] := by
      rcases Nat.eq_zero_or_pos es.length with h0 | h0
      · exact List.eq_nil_of_length_eq_zero h0
      · obtain ⟨b, off, hx, _⟩ := hr h0
        cases hx
    subst hm
    exact ⟨v, w, [], run_append_none w lo _ ty _ i0 5 Tryz.underlying65 hi0 v _ _ hown.1 c, EntRows.nil, by rw [List.append_nil]; exact hown.inH, World.grownBy.refl w _, Below.refl _ _, .inl rfl⟩
  · have hrows : ∃ rows2, EntRows w lA hA es rows2 ∧ ∀ j u, rows2.flatten[j]? = some u → w.cell? (ad.add j) = some u := by
      by_cases h0 : es.length = 0
      · have : es = [] := List.eq_nil_of_length_eq_zero h0
        subst this
        exact ⟨[], EntRows.nil, fun j u hu => by simp at hu⟩
      · obtain ⟨b, off, hx, _, _, hc⟩ := hr (by omega)
        obtain rfl : ad = ⟨b, off, none⟩ := Option.some.inj hx
        have hE : ∀ j (hj : j < es.length), ∃ r, EntRow w lA hA es[j] r ∧ ∀ i, i < 5 → w.cell? ⟨b, off + j * 5 + i, none⟩ = r[i]? := fun j hj => (hc j hj).row
        let f : Nat → List Value := fun j => if h : j < es.length then Classical.choose (hE j h) else []
        have hf : ∀ j (h : j < es.length), EntRow w lA hA es[j] (f j) ∧ ∀ i, i < 5 → w.cell? ⟨b, off + j * 5 + i, none⟩ = (f j)[i]? := fun j h => by
          have := Classical.choose_spec (hE j h)
          simp only [f, dif_pos h]
          exact this
        have hrs : EntRows w lA hA es ((List.range es.length).map f) := ⟨by simp, fun j h1 h2 => by simpa using (hf j h1).1⟩
        refine ⟨_, hrs, fun j u hu => ?_⟩
        have hadd : (⟨b, off, none⟩ : Addr).add j = ⟨b, off + j, none⟩ := by unfold Addr.add; split <;> simp_all
        have hlen2 := flat_len hrs.mem
        have hj : j < es.length * 5 := by have := (List.getElem?_eq_some_iff.1 hu).1; rw [hlen2] at this; simpa using this
        have e : j = j / 5 * 5 + j % 5 := by omega
        have hq : j / 5 < es.length := by omega
        have hm : j % 5 < 5 := by omega
        rw [e, flat_at hrs.mem (j / 5) (j % 5) (by simpa using hq) hm] at hu
        have h3 := (hf (j / 5) hq).2 (j % 5) hm
        rw [hadd]
        have e2 : off + j = off + j / 5 * 5 + j % 5 := by omega
        rw [e2, h3]
        simpa using hu
    obtain ⟨rows2, hrs, hcell⟩ := hrows
    obtain ⟨v', w', hrun, h2, h3, _, h5⟩ := run_append_own_at (P := Tryz.prog) w lo _ ty _ i0 _ 5 72 Tryz.underlying65 hi0 hz0 hz1 hz2 rfl (by omega) v _ _ hown.1 ad es.length c rows2.flatten (by rw [flat_len hrs.mem, hrs.1]) hcell
      (fun u hu => by
        obtain ⟨r, hr, hur⟩ := List.mem_flatten.1 hu
        exact hrs.oneC r hr u hur) (by simp only [maxLen]; omega) (by omega) hlo
    refine ⟨v', w', rows2, hrun, hrs, OwnR.of_row ?_ (fun r hr => ?_) (Nat.le_refl _), h3, hb w' h3, h5⟩
    · rw [List.length_append, List.flatten_append, hrs.1]; exact h2
    · rcases List.mem_append.1 hr with hr | hr
      · exact hown.2.1 r hr
      · exact hrs.mem r hr

/-- the same at a step of a region that draws its order -/
theorem step_append_ents {ops : Array Oper} {o : Oper} {a : Act} {K : Act → World → Prop} {Q : Exit → Act → World → Prop} {E : Prop} (hgd : o.guard = none) (s x : Operand)
    (ho : o.op = .call { callee := .builtin .append, args := #[s, x], argTypes := #[65, 65] }) (hs : a.eval s = v) (hown : OwnR w lo hi 74 5 v rows) (hx : a.eval x = .slice A es.length c) {l2 h2 : Nat} (hr : RdE w l2 h2 A es)
    (hlen : rows.length + es.length ≤ 1073741824) (hlo : lo ≤ w.heap.size)
    (h : ∀ v' w' rows2, EntRows w l2 h2 es rows2 → OwnR w' lo w'.heap.size 74 5 v' (rows ++ rows2) → w.grownBy w' v.ownBlock → Below lo w w' → (v'.ownBlock = v.ownBlock ∨ v'.ownBlock = some w.heap.size) → K (a.put o.dst v') w') :
    if Region.wanted o (yielded ops a.tmps) = true then Oper.wp Tryz.prog o a w K Q else E := by
  have hw : Region.wanted o (yielded ops a.tmps) = true := by simp [Region.wanted, hgd]
  rw [if_pos hw]
  obtain ⟨v', w', rows2, hrun, h1, h2, h3, h4, h5⟩ := run_append_ents o.type (c := c) hown hr hlen hlo
  unfold Oper.wp execOp
  simp only [ho, resolve, invoke, builtin, Sem.run_bind, Sem.run_pure, Result.andThen_ok, List.map_toArray, List.map_cons, List.map_nil, hs, hx, hrun]
  exact h v' w' rows2 h1 h2 h3 h4 h5
/-- 'append(v, x)' : one entry that lies in a block of its own -/
theorem run_append_one (ty : TypeId) {g cc : Nat} {row : List Value} (hown : OwnR w lo hi 74 5 v rows) (hb : ∀ i, i < 5 → w.cell? ⟨g, i, none⟩ = row[i]?) (h5 : row.length = 5) (h1 : ∀ u ∈ row, u.oneCell' = true) (hlen : rows.length + 1 ≤ 1073741824) (hlo : lo ≤ w.heap.size) :
    ∃ v' w', (Builtin.append_ #[65, 65] ty #[v, .slice (some ⟨g, 0, none⟩) 1 cc]).run Tryz.prog w = .ok v' w' ∧ OwnR w' lo w'.heap.size 74 5 v' (rows ++ [row]) ∧ w.grownBy w' v.ownBlock ∧ Below lo w w' ∧
      (v'.ownBlock = v.ownBlock ∨ v'.ownBlock = some w.heap.size) := by
  obtain ⟨i0, hi0, hz0, hz1, hz2⟩ := info_parts entInfo
  obtain ⟨v', w', hrun, h2, h3, _, h6⟩ := run_append_own_at (P := Tryz.prog) w lo _ ty _ i0 _ 5 72 Tryz.underlying65 hi0 hz0 hz1 hz2 rfl (by omega) v _ _ hown.1 ⟨g, 0, none⟩ 1 cc row (by simp [h5]) (fun j u hu => by
      have hadd : (⟨g, 0, none⟩ : Addr).add j = ⟨g, j, none⟩ := by unfold Addr.add; split <;> simp_all
      rw [hadd, hb j (by have := (List.getElem?_eq_some_iff.1 hu).1; omega), hu]) h1 (by simp only [maxLen]; omega) (by omega) hlo
  refine ⟨v', w', hrun, OwnR.of_row (by rw [List.length_append, List.flatten_append]; simpa using h2) (fun r hr => ?_) (Nat.le_refl _), h3, (Below.refl lo w).grown h3 hlo (fun k hk => (hown.lt k hk).1), h6⟩
  rcases List.mem_append.1 hr with hr | hr
  · exact hown.2.1 r hr
  · rw [List.mem_singleton.1 hr]; exact h5
theorem step_append_one {ops : Array Oper} {o : Oper} {a : Act} {K : Act → World → Prop} {Q : Exit → Act → World → Prop} {E : Prop} (hgd : o.guard = none) (s x : Operand)
    (ho : o.op = .call { callee := .builtin .append, args := #[s, x], argTypes := #[65, 65] }) {g cc : Nat} {row : List Value} (hs : a.eval s = v) (hown : OwnR w lo hi 74 5 v rows) (hx : a.eval x = .slice (some ⟨g, 0, none⟩) 1 cc)
    (hb : ∀ i, i < 5 → w.cell? ⟨g, i, none⟩ = row[i]?) (h5 : row.length = 5) (h1 : ∀ u ∈ row, u.oneCell' = true) (hlen : rows.length + 1 ≤ 1073741824) (hlo : lo ≤ w.heap.size)
    (h : ∀ v' w', OwnR w' lo w'.heap.size 74 5 v' (rows ++ [row]) → w.grownBy w' v.ownBlock → Below lo w w' → (v'.ownBlock = v.ownBlock ∨ v'.ownBlock = some w.heap.size) → K (a.put o.dst v') w') :
    if Region.wanted o (yielded ops a.tmps) = true then Oper.wp Tryz.prog o a w K Q else E := by
  have hw : Region.wanted o (yielded ops a.tmps) = true := by simp [Region.wanted, hgd]
  rw [if_pos hw]
  obtain ⟨v', w', hrun, h2, h3, h4, h6⟩ := run_append_one o.type (cc := cc) hown hb h5 h1 hlen hlo
  unfold Oper.wp execOp
  simp only [ho, resolve, invoke, builtin, Sem.run_bind, Sem.run_pure, Result.andThen_ok, List.map_toArray, List.map_cons, List.map_nil, hs, hx, hrun]
  exact h v' w' h2 h3 h4 h6
theorem bk_cells {g : Nat} {row : List Value} (hb : Bk w g 74 row.toArray) : ∀ i, i < 5 → w.cell? ⟨g, i, none⟩ = row[i]? := fun i _ => by rw [hb.cell i]; simp
theorem ent_block {g : Nat} {t m p : Int} {y z : List Int} {A1 A2 : Option Addr} {c1 c2 l h l' h' : Nat} (hk : Bk w g 74 #[.int .i64 t, .int .i64 m, .int .i64 p, .slice A1 y.length c1, .slice A2 z.length c2])
    (hy : Rd w l h A1 y) (hz : Rd w l' h' A2 z) : RdE w 0 w.heap.size (some ⟨g, 0, none⟩) [⟨t, m, p, y, z⟩] := fun _ => by
  refine ⟨g, 0, rfl, Nat.zero_le _, hk.lt, fun j hj => ?_⟩
  obtain rfl : j = 0 := by simpa using hj
  exact ⟨A1, c1, A2, c2, by simpa using hk.cell 0, by simpa using hk.cell 1, by simpa using hk.cell 2, by simpa using hk.cell 3, by simpa using hk.cell 4, hy.std, hz.std⟩
/-- an empty slice literal -/
theorem OwnR.zero {g : Nat} (h : w.heap[g]? = some (.cells #[] 74 (0, 0))) (hlo : lo ≤ g) (hhi : g < hi) : OwnR w lo hi 74 5 (.slice (some ⟨g, 0, none⟩) 0 0) [] :=
  ⟨⟨by simp, .inr ⟨g, 0, #[], rfl, hlo, h, Nat.le_refl _, by simp [maxLen], by simp, by simp⟩⟩, by simp, fun k hk => by simp [Value.ownBlock] at hk; omega⟩
end

theorem DjR.sy {r s : List Value} (h : DjR r s) : DjR s r := fun u hu v hv => (h v hv u hu).sy
theorem ents_app {w w5 : World} {l1 h1 l2 h2 lo hi : Nat} {es : List Ent} {e : Ent} {rows : List (List Value)} {r : List Value} (hL : EntsOwn w l1 h1 es rows) (hN : EntOwn w l2 h2 e r) (hd : ∀ s ∈ rows, DjR s r) (hK : KeepI w w5) (a : lo ≤ l1) (b : lo ≤ l2) (c : h1 ≤ hi) (d : h2 ≤ hi) :
    EntsOwn w5 lo hi (es ++ [e]) (rows ++ [r]) := ((hL.mono a c).snoc (hN.mono b d) hd).keepI hK
end Go.Proofs.YtjhbffndiaggmaaGreatDoor

namespace Go.Proofs.YtjhbffndiaggmaaGreatDoor
open Go.RowKit Go.ChangeShapes Go.WideShapes
set_option linter.unusedVariables false
set_option linter.unusedSimpArgs false

set_option maxRecDepth 100000 in
theorem checkedLog_v (es : List Ent) (A : Option Addr) (n c : Nat) {l h : Nat} (w : World) (hr0 : RdE w l h A es) (hn : n = es.length) (hl : eszL es ≤ 1048576) (hca : n ≤ c) (v : Bool) (hv : logB es = v) (R : List Ent) (hR : R = if v = true then es else []) :
    Calls Tryz.prog 133 #[.slice A n c] w fun e w' => ∃ A' c', e = .returned (.tuple #[.slice A' R.length c', .bool v]) ∧ Hid ((v = true ∧ A' = A ∧ c' = c) ∨ (v = false ∧ A' = none ∧ c' = 0)) ∧ Below w.heap.size w w' := by
  subst hn
  have hr := hr0.std
  clear hr0
  cases v with
  | false =>
    obtain rfl : R = [] := hR
    go_enter Tryz.func133, Tryz.ntmps133
    go_wp2_with fail
    (with_reducible refine (iIsLog_v es A c _ hr hl hca _ hv).mono ?_)
    rintro e w1 ⟨rfl, hb1⟩
    go_wp2
    go_ret2
    exact ⟨none, 0, rfl, Lib.hid (by simp), hb1⟩
  | true =>
    obtain rfl : R = es := hR
    go_enter Tryz.func133, Tryz.ntmps133
    go_wp2_with fail
    (with_reducible refine (iIsLog_v R A c _ hr hl hca _ hv).mono ?_)
    rintro e w1 ⟨rfl, hb1⟩
    go_wp2
    go_ret2
    exact ⟨A, c, rfl, Lib.hid (by simp), hb1⟩
end Go.Proofs.YtjhbffndiaggmaaGreatDoor

/-
  One entry put behind the rows of a slice that a call has made: the slice as it was before still holds its rows. The conditions are bounds on lengths.
-/
namespace Go.Proofs.YtjhbffndiaggmaaGreatDoor
open Go.RowKit Go.ChangeShapes Go.WideShapes
set_option linter.unusedVariables false
set_option linter.unusedSimpArgs false

section
variable {P : Program} {w w' : World}
/-- the slice that was appended to still owns its row -/
theorem old_row (base : Nat) (t ty e : TypeId) (i : TypeInfo) (z : Value) (size bytes : Nat) (ht : P.underlying t = some (.slice e)) (hi : P.info? e = some i) (hz : i.zero = some z)
    (hsize : i.size = size) (hby : i.bytes = bytes) (v : Value) (n : Nat) (xs : List Value) (hown : w.ownsRow base e size v n xs)
    (a : Addr) (m c : Nat) (news : List Value) (hl : news.length = m * size) (hnews : ∀ j u, news[j]? = some u → w.cell? (a.add j) = some u) (h1 : ∀ u ∈ news, u.oneCell' = true)
    (h63 : n + m ≤ maxLen) (hbytes : (n + m) * bytes ≤ 140737488355328) {v' : Value} (hrun : (Builtin.append_ #[t, t] ty #[v, .slice (some a) m c]).run P w = .ok v' w') : w'.ownsRow base e size v n xs := by
  subst hsize
  subst hby
  refine ⟨hown.1, ?_⟩
  rcases hown.2 with hn | ⟨g, cap, cur, rfl, hbg, hg, hnc, hcm, hcs, htake⟩
  · exact .inl hn
  · by_cases hroom : n + m ≤ cap
    · have hfit : n * i.size + news.length ≤ cur.size := by rw [hl, hcs, ← Nat.add_mul]; exact Nat.mul_le_mul_right _ hroom
      have hr := run_append_room (P := P) w t ty e i ht hi g n cap cur hg a m c news hl hnews h1 hroom hfit
      have hw : w' = w.setRow g (cur.toList.take (n * i.size) ++ news ++ cur.toList.drop (n * i.size + news.length)).toArray := by
        have := hrun.symm.trans hr
        injection this
      subst hw
      refine .inr ⟨g, cap, _, rfl, hbg, setRow_heap w g cur _ e _ hg, hnc, hcm, ?_, ?_⟩
      · simp only [List.size_toArray, List.length_append, List.length_take, List.length_drop, Array.length_toList]
        omega
      · have hx : (List.take (n * i.size) cur.toList).length = n * i.size := by rw [htake]; exact hown.1
        rw [List.append_assoc, List.take_append_of_le_length (by rw [hx]; exact Nat.le_refl _), List.take_of_length_le (by rw [hx]; exact Nat.le_refl _)]
        exact htake
    · have holds : ∀ j u, xs[j]? = some u → w.cell? ((⟨g, 0, none⟩ : Addr).add j) = some u := hown.cells (g := g) rfl
      have hr := run_append_grow (P := P) w t ty e i z ht hi hz ⟨g, 0, none⟩ n cap xs hown.1 holds a m c news hl hnews (by omega) (by simp only [maxLen] at h63; omega) (growslice_fits (by omega) hbytes)
      have hw := hrun.symm.trans hr
      injection hw with _ hw
      subst hw
      refine .inr ⟨g, cap, cur, rfl, hbg, ?_, hnc, hcm, hcs, htake⟩
      have hlt : g < w.drew.heap.size := (Array.getElem?_eq_some_iff.1 hg).1
      exact (Below.heap_alloc w.drew _ g hlt).trans hg
end
section
variable {ops : Array Oper} {rest : List Oper} {o : Oper} {a : Act} {Q : Exit → Act → World → Prop} {w : World} {lo hi : Nat} {v : Value} {rows : List (List Value)}
/-- 'append(l, e)' at an operation: the new slice, and the old one as it was -/
theorem wp_append_ent (hgd : o.guard = none) (s x : Operand)
    (ho : o.op = .call { callee := .builtin .append, args := #[s, x], argTypes := #[65, 65] }) {g cc : Nat} {row : List Value} (hs : a.eval s = v) (hown : OwnR w lo hi 74 5 v rows) (hx : a.eval x = .slice (some ⟨g, 0, none⟩) 1 cc)
    (hb : ∀ i, i < 5 → w.cell? ⟨g, i, none⟩ = row[i]?) (h5 : row.length = 5) (h1 : ∀ u ∈ row, u.oneCell' = true) (hlen : rows.length + 1 ≤ 1073741824) (hlo : lo ≤ w.heap.size)
    (h : ∀ v' w', OwnR w' lo w'.heap.size 74 5 v' (rows ++ [row]) → OwnR w' lo w'.heap.size 74 5 v rows → w.grownBy w' v.ownBlock → Below lo w w' → wpList Tryz.prog ops Q rest (a.put o.dst v') w') : wpList Tryz.prog ops Q (o :: rest) a w :=
  wpList_plain hgd fun K hK => by
    obtain ⟨v', w', hrun, h2, h3, h4, h6⟩ := run_append_one o.type (cc := cc) hown hb h5 h1 hlen hlo
    obtain ⟨i0, hi0, hz0, hz1, hz2⟩ := info_parts entInfo
    have hold : OwnR w' lo w'.heap.size 74 5 v rows := by
      have hr := old_row (P := Tryz.prog) lo _ o.type _ i0 _ 5 72 Tryz.underlying65 hi0 hz0 hz1 hz2 v _ _ hown.1 ⟨g, 0, none⟩ 1 cc row (by simp [h5]) (fun j u hu => by
        have hadd : (⟨g, 0, none⟩ : Addr).add j = ⟨g, j, none⟩ := by unfold Addr.add; split <;> simp_all
        rw [hadd, hb j (by have := (List.getElem?_eq_some_iff.1 hu).1; omega), hu]) h1 (by simp only [maxLen]; omega) (by omega) hrun
      exact OwnR.of_row hr hown.2.1 (Nat.le_refl _)
    unfold Oper.wp execOp
    simp only [ho, resolve, invoke, builtin, Sem.run_bind, Sem.run_pure, Result.andThen_ok, List.map_toArray, List.map_cons, List.map_nil, hs, hx, hrun]
    exact hK _ _ (h v' w' h2 hold h3 h4)
end
end Go.Proofs.YtjhbffndiaggmaaGreatDoor

/-
  The reference's copy of a log, with no memory shared: the contract. The conditions are bounds on lengths.
-/
namespace Go.Proofs.YtjhbffndiaggmaaGreatDoor
open Go.RowKit Go.ChangeShapes Go.WideShapes
set_option linter.unusedVariables false
set_option linter.unusedSimpArgs false

set_option maxRecDepth 100000 in
set_option maxHeartbeats 4000000 in
theorem lgOwn_any (es : List Ent) (A : Option Addr) (c : Nat) {l h : Nat} (w : World) (hr0 : RdE w l h A es) (hl : eszL es ≤ 1048576) :
    Calls Tryz.prog 168 #[.slice A es.length c] w fun e w' => ∃ v rows, e = .returned v ∧ OwnR w' w.heap.size w'.heap.size 74 5 v rows ∧ EntsOwn w' w.heap.size w'.heap.size es rows ∧ Below w.heap.size w w' := by
  have hr := hr0.std
  have hel := esz_len es
  clear hr0
  go_enter Tryz.func168, Tryz.ntmps168
  go_wp2
  go_loopw [3, 5, 8] (fun v _ i wr => ∃ (k : Nat) (rows : List (List Value)), k ≤ es.length ∧ i = .int .i64 k ∧ OwnR wr w.heap.size wr.heap.size 74 5 v rows ∧ EntsOwn wr w.heap.size wr.heap.size (es.take k) rows ∧ Below w.heap.size w wr) (fun _ _ i _ => es.length - (intOf i).toNat)
  case atStart => exact ⟨0, [], Nat.zero_le _, rfl, OwnR.nil, EntsOwn.nil, Below.refl _ _⟩
  case round =>
    obtain ⟨k, rows, hk, rfl, hown, hen, hbr⟩ := hrel
    have hszr := hbr.size
    obtain ⟨Av, cv, rfl, hvc, hvm, -, -⟩ := hown.cells
    by_cases hlt : k < es.length
    · obtain ⟨b0, off, rfl, _, _, hc⟩ := (hr.st hbr) (by omega)
      obtain ⟨A1, c1, A2, c2, x0, x1, x2, x3, x4, r1, r2⟩ := hc k hlt
      have hat := esz_at es k hlt
      have hrl : rows.length ≤ k := by have := hen.len; rw [List.length_take] at this; omega
      have htk := Lib.hid (List.take_succ_eq_append_getElem hlt)
      obtain ⟨EB, hEB⟩ : ∃ EB, EB = Obj.cells #[.int .i64 es[k].time, .int .i64 es[k].msg, .int .i64 es[k].part, .slice A1 es[k].seen.length c1, .slice A2 es[k].shown.length c2] 74 (0, 0) := ⟨_, rfl⟩
      clear hc
      go_wp2_with fail
      (with_reducible refine (l1Own_any es[k].seen A1 c1 _ (r1.alloc _) (by omega)).mono ?_)
      rintro e w2 ⟨v2, rfl, o2, hb2⟩
      rw [← hEB] at hb2 o2
      have s2 : wr.heap.size + 1 ≤ w2.heap.size := by have := hb2.size; simpa using this
      have esz2 : (wr.alloc EB).heap.size = wr.heap.size + 1 := by simp
      rw [esz2] at o2
      obtain ⟨A3, c3, rfl, _, _⟩ := o2.rd
      have bk : Bk w2 wr.heap.size 74 #[.int .i64 es[k].time, .int .i64 es[k].msg, .int .i64 es[k].part, .slice A1 es[k].seen.length c1, .slice A2 es[k].shown.length c2] := by rw [hEB] at hb2; exact (Bk.new wr 74 _).st hb2
      have bk3 : Bk (w2.setCell ⟨wr.heap.size, 3, none⟩ (.slice A3 es[k].seen.length c3)) wr.heap.size 74 #[.int .i64 es[k].time, .int .i64 es[k].msg, .int .i64 es[k].part, .slice A3 es[k].seen.length c3, .slice A2 es[k].shown.length c2] := by simpa using bk.set_ 3 (.slice A3 es[k].seen.length c3)
      have f3 := bk.frozen 3
      have y3 := bk.cell 3
      have z4 := bk3.cell 4
      simp at y3 z4
      have r2b := ((r2.alloc EB).st hb2).mono (Nat.le_refl _) (show w.heap.size ≤ wr.heap.size by omega)
      have r2c := r2b.setCell (p := ⟨wr.heap.size, 3, none⟩) (Nat.le_refl _) (.slice A3 es[k].seen.length c3)
      have o2c := o2.setCell (p := ⟨wr.heap.size, 3, none⟩) (.inl (by dsimp only; omega)) (.slice A3 es[k].seen.length c3)
      have ho2 := ((hown.alloc EB).st hb2).setCell (p := ⟨wr.heap.size, 3, none⟩) (.inr (Nat.le_refl _)) (.slice A3 es[k].seen.length c3)
      have hB2 := ((hbr.alloc hszr EB).trans (hb2.mono (by simp; omega))).setCell (p := ⟨wr.heap.size, 3, none⟩) hszr (.slice A3 es[k].seen.length c3)
      have he2 := (((hen.alloc EB).st hb2)).keep (w' := w2.setCell ⟨wr.heap.size, 3, none⟩ (.slice A3 es[k].seen.length c3)) (fun q _ h2 _ => Below.heap_setCell _ _ _ _ (by dsimp only; omega))
      obtain ⟨W2, hW2⟩ : ∃ W2, W2 = w2.setCell ⟨wr.heap.size, 3, none⟩ (.slice A3 es[k].seen.length c3) := ⟨_, rfl⟩
      have sW2 : W2.heap.size = w2.heap.size := by rw [hW2, size_setCell]
      clear hb2 o2 hown hen hbr x0 x1 x2 x3 x4 r1 r2 r2b hEB esz2
      go_wp2_with fail
      rw [← hW2] at bk3 z4 r2c o2c ho2 hB2 he2 ⊢
      clear y3 f3 bk hW2
      (with_reducible refine (l1Own_any es[k].shown A2 c2 _ r2c (by omega)).mono ?_)
      rintro e w3 ⟨v3, rfl, o3, hb3⟩
      obtain ⟨A4, c4, rfl, _, _⟩ := o3.rd
      have s3 := hb3.size
      have bk4 := bk3.st hb3
      have bk5 : Bk (w3.setCell ⟨wr.heap.size, 4, none⟩ (.slice A4 es[k].shown.length c4)) wr.heap.size 74 #[.int .i64 es[k].time, .int .i64 es[k].msg, .int .i64 es[k].part, .slice A3 es[k].seen.length c3, .slice A4 es[k].shown.length c4] := by simpa using bk4.set_ 4 (.slice A4 es[k].shown.length c4)
      have f4 := bk4.frozen 4
      have u0 := bk4.cell 0
      have u1 := bk4.cell 1
      have u2 := bk4.cell 2
      have u3 := bk4.cell 3
      have u4 := bk4.cell 4
      simp at u0 u1 u2 u3 u4
      have o3c := o3.setCell (p := ⟨wr.heap.size, 4, none⟩) (.inl (by dsimp only; omega)) (.slice A4 es[k].shown.length c4)
      have o2d := (o2c.st hb3).setCell (p := ⟨wr.heap.size, 4, none⟩) (.inl (by dsimp only; omega)) (.slice A4 es[k].shown.length c4)
      have ho3 := (ho2.st hb3).setCell (p := ⟨wr.heap.size, 4, none⟩) (.inr (Nat.le_refl _)) (.slice A4 es[k].shown.length c4)
      have hB3 := (hB2.trans (hb3.mono (by omega))).setCell (p := ⟨wr.heap.size, 4, none⟩) hszr (.slice A4 es[k].shown.length c4)
      have he3 := (he2.st hb3).keep (w' := w3.setCell ⟨wr.heap.size, 4, none⟩ (.slice A4 es[k].shown.length c4)) (fun q _ h2 _ => Below.heap_setCell _ _ _ _ (by dsimp only; omega))
      have hdj := Dj.of_lt (o2c.st hb3) o3 (by omega)
      obtain ⟨W3, hW3⟩ : ∃ W3, W3 = w3.setCell ⟨wr.heap.size, 4, none⟩ (.slice A4 es[k].shown.length c4) := ⟨_, rfl⟩
      have sW3 : W3.heap.size = w3.heap.size := by rw [hW3, size_setCell]
      have hent : EntOwn W3 (wr.heap.size + 1) w3.heap.size es[k] [.int .i64 es[k].time, .int .i64 es[k].msg, .int .i64 es[k].part, .slice A3 es[k].seen.length c3, .slice A4 es[k].shown.length c4] := ⟨_, _, rfl, by rw [hW3]; exact o2d.mono (Nat.le_refl _) (by omega), by rw [hW3]; exact o3c.mono (by omega) (Nat.le_refl _), hdj⟩
      rw [← hW3] at bk5 ho3 hB3 he3
      have hentH := Lib.hid hent
      have he3H := Lib.hid he3
      have hB3H := Lib.hid hB3
      clear hb3 o3 o2c o2d o3c hdj ho2 hB2 he2 bk3 z4 r2c hent he3 hB3
      obtain ⟨NB, hNB⟩ : ∃ NB, NB = Obj.cells #[.int .i64 es[k].time, .int .i64 es[k].msg, .int .i64 es[k].part, .slice A3 es[k].seen.length c3, .slice A4 es[k].shown.length c4] 74 (0, 0) := ⟨_, rfl⟩
      have hbk : Bk (W3.alloc NB) W3.heap.size 74 #[.int .i64 es[k].time, .int .i64 es[k].msg, .int .i64 es[k].part, .slice A3 es[k].seen.length c3, .slice A4 es[k].shown.length c4] := by rw [hNB]; exact Bk.new W3 _ _
      have hcell : ∀ i (hi : i < [[Value.int .i64 es[k].time, .int .i64 es[k].msg, .int .i64 es[k].part, .slice A3 es[k].seen.length c3, .slice A4 es[k].shown.length c4]].length) u, u < 5 → (W3.alloc NB).cell? ⟨W3.heap.size, i * 5 + u, none⟩ = ([[Value.int .i64 es[k].time, .int .i64 es[k].msg, .int .i64 es[k].part, .slice A3 es[k].seen.length c3, .slice A4 es[k].shown.length c4]][i])[u]? := fun i hi u hu => by
        obtain rfl : i = 0 := by simpa using hi
        rw [Nat.zero_mul, Nat.zero_add, hbk.cell u]
        simp
      have hE3 := he3H.out.alloc NB
      have hent3 := hentH.out.keep (w' := W3.alloc NB) (fun q _ _ h3 => Below.heap_alloc W3 NB q h3)
      have hB3 := hB3H.out.alloc (by omega) NB
      have hOb := ho3.alloc NB
      rw [sW3] at hcell
      rw [hW3, hNB] at hcell hOb hE3 hent3 hB3
      have hcH := Lib.hid hcell
      have hObH := Lib.hid hOb
      have hE3H := Lib.hid hE3
      have hent3H := Lib.hid hent3
      have hB4H := Lib.hid hB3
      clear hcell hbk hOb ho3 hE3 hent3 hB3
      go_wp2_with (at_builtin; refine wp_append_rows rfl (.tmp 20) (.tmp 22) rfl Tryz.underlying65 entInfo rfl (by omega) rfl hObH.out (news := [[.int .i64 es[k].time, .int .i64 es[k].msg, .int .i64 es[k].part, .slice A3 es[k].seen.length c3, .slice A4 es[k].shown.length c4]]) (by rfl) hcH.out (by simp) (by simp [Value.oneCell']) (by simp; omega) (by omega) (by simp; omega) ?_; intro v5 w5 ho5 hg5 hb5 hat5)
      have hK := KeepI.grown hObH.out hg5 (by decide)
      have s5 : w3.heap.size ≤ w5.heap.size := by have := hg5.size; simp at this; omega
      have hE5 := (hE3H.out.keepI hK).mono (Nat.le_refl w.heap.size) (show wr.heap.size ≤ wr.heap.size + 1 by omega)
      have hent5 := hent3H.out.keepI hK
      have hE6 := ((hE5.mono (Nat.le_refl _) (show wr.heap.size + 1 ≤ w5.heap.size by omega)).snoc (hent5.mono (by omega) s5) (fun s hs => by
        obtain ⟨e', he'⟩ := hE5.mem hs
        exact he'.dj_lt hent5 (Nat.le_refl _)))
      rw [← htk.out] at hE6
      have hE6H := Lib.hid hE6
      have hB5 := Lib.hid (hB4H.out.trans hb5)
      have ho5H := Lib.hid ho5
      clear ho5 hg5 hb5 hE5 hE6 hent5 hK
      go_roundw
      case rel => exact ⟨k + 1, _, by omega, by go_num, ho5H.out, hE6H.out, hB5.out⟩
      case measure => simp [intOf]; omega
    · obtain rfl : k = es.length := by omega
      rw [List.take_length] at hen
      have hoH := Lib.hid hown
      have heH := Lib.hid hen
      clear hown hen
      go_wp2
      go_ret
      exact ⟨_, rows, rfl, hoH.out, heH.out, hbr⟩
end Go.Proofs.YtjhbffndiaggmaaGreatDoor
