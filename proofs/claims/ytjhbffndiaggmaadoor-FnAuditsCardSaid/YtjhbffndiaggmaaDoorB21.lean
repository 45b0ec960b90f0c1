/-
  Contracts and plain laws that the walk uses, several texts in one. The conditions are named ahead of each.
-/
import Derived.Test.YtjhbffndiaggmaaDoorZIsLogI
import Derived.Test.YtjhbffndiaggmaaDoorB11
import Derived.Test.YtjhbffndiaggmaaDoorB16
import Derived.Test.YtjhbffndiaggmaaDoorB19
import Derived.Test.YtjhbffndiaggmaaDoorB15

/-
  Contracts of FindEntry and ShownSignals, in the reference and in the program. The conditions are bounds on lengths.
-/
namespace Go.Proofs.YtjhbffndiaggmaaDoor
open Go.RowKit Go.ChangeShapes Go.WideShapes
set_option linter.unusedVariables false
set_option linter.unusedSimpArgs false

def feB (es : List Ent) (m p : Int) : Bool := logB es && decide (0 ≤ findI es m p)
def feV (es : List Ent) (m p : Int) : Int := if feB es m p then findI es m p else 0
theorem feB_bad {es : List Ent} {m p : Int} (h : logB es = false) : feB es m p = false := by simp [feB, h]
theorem feB_no {es : List Ent} {m p : Int} (h : ¬ 0 ≤ findI es m p) : feB es m p = false := by simp [feB, h]
theorem feB_yes {es : List Ent} {m p : Int} (h : logB es = true) (h2 : 0 ≤ findI es m p) : feB es m p = true := by simp [feB, h, h2]
theorem feV_no {es : List Ent} {m p : Int} (h : feB es m p = false) : feV es m p = 0 := by simp [feV, h]
theorem feV_yes {es : List Ent} {m p : Int} (h : feB es m p = true) : feV es m p = findI es m p := by simp [feV, h]

def shSum (es : List Ent) (k : Nat) : Nat := ((es.take k).map fun e => e.shown.length).sum
theorem shSum_zero (es : List Ent) : shSum es 0 = 0 := by simp [shSum]
theorem shSum_succ (es : List Ent) (k : Nat) (h : k < es.length) : shSum es (k + 1) = shSum es k + es[k].shown.length := by
  unfold shSum; rw [List.take_succ_eq_append_getElem h, List.map_append, List.sum_append]; simp
theorem shown_le (l : List Ent) : (l.map fun e => e.shown.length).sum ≤ (l.map fun e => e.seen.length + e.shown.length).sum := by
  induction l with
  | nil => simp
  | cons a l ih => simp; omega
theorem shSum_le (es : List Ent) (k : Nat) : shSum es k ≤ eszL es := by
  have h1 := shown_le (es.take k)
  have h2 := psum_le es k
  unfold shSum
  unfold psum at h2
  unfold eszL psum
  omega
def ssV (es : List Ent) : Int := if logB es then (shSum es es.length : Int) else 0
theorem ssV_no {es : List Ent} (h : logB es = false) : ssV es = 0 := by simp [ssV, h]
theorem ssV_yes {es : List Ent} (h : logB es = true) : ssV es = (shSum es es.length : Int) := by simp [ssV, h]
theorem lgGood_v (es : List Ent) (A : Option Addr) (c : Nat) {l h : Nat} (w : World) (hr : RdE w l h A es) (hl : eszL es ≤ 1048576) (v : Bool) (hv : logB es = v) :
    Calls Tryd.prog 32 #[.slice A es.length c] w fun e w' => e = .returned (.bool v) ∧ Below w.heap.size w w' := by
  rw [← hv]; exact lgGood_any es A c w hr hl
theorem iIsLog_v (es : List Ent) (A : Option Addr) (c : Nat) {l h : Nat} (w : World) (hr : RdE w l h A es) (hl : eszL es ≤ 1048576) (hcap : es.length ≤ c) (v : Bool) (hv : logB es = v) :
    Calls Tryd.prog 35 #[.slice A es.length c] w fun e w' => e = .returned (.bool v) ∧ Below w.heap.size w w' := by
  rw [← hv]; exact iIsLog_any es A c w hr hl hcap

set_option maxHeartbeats 1000000 in
theorem sFindEntry_any (es : List Ent) (A : Option Addr) (c : Nat) (m p : Int) {l h : Nat} (w : World) (hr0 : RdE w l h A es) (hl : eszL es ≤ 1048576) :
    Calls Tryd.prog 22 #[.slice A es.length c, .int .i64 m, .int .i64 p] w fun e w' => e = .returned (.tuple #[.int .i64 (feV es m p), .bool (feB es m p)]) ∧ Below w.heap.size w w' := by
  have hr := hr0.std
  clear hr0
  have hel : es.length ≤ 1048576 := Nat.le_trans (esz_len es) hl
  cases h1 : logB es with
  | false =>
    have hq := Lib.hid (feB_bad (m := m) (p := p) h1)
    have hv := Lib.hid (feV_no hq.out)
    go_enter Tryd.func22, Tryd.ntmps22
    go_wp2_with (go_at_call 32; (with_reducible refine (lgGood_v es A c _ hr hl _ h1).mono ?_); rintro e w1 ⟨rfl, hb1⟩)
    go_ret2
    exact ⟨ret_ib hv.out.symm hq.out.symm, hb1⟩
  | true =>
    obtain ⟨v, hv0⟩ : ∃ v, findI es m p = v := ⟨_, rfl⟩
    have hv : Hid (findI es m p = v) := Lib.hid hv0
    by_cases h2 : 0 ≤ v
    · have hq := Lib.hid (feB_yes h1 (by rw [hv0]; exact h2))
      have hw : Hid (feV es m p = v) := Lib.hid ((feV_yes hq.out).trans hv0)
      have h3 : ¬ v < 0 := by omega
      clear hv0
      go_enter Tryd.func22, Tryd.ntmps22
      go_wp2_with (first | (go_at_call 32; (with_reducible refine (lgGood_v es A c _ hr hl _ h1).mono ?_); rintro e w1 ⟨rfl, hb1⟩) | (go_at_call 45; (with_reducible refine (lgFind_v es A c m p _ ((hr.st hb1).st hb2) hel v hv.out).mono ?_); rintro e w3 ⟨rfl, hb3⟩) | (go_at_call 45; (with_reducible refine (lgFind_v es A c m p _ (hr.st hb1) hel v hv.out).mono ?_); rintro e w2 ⟨rfl, hb2⟩))
      go_ret2
      exact ⟨ret_ib hw.out.symm hq.out.symm, hb1.trans ((hb2.mono hb1.size).trans (hb3.mono (by have := hb1.size; have := hb2.size; omega)))⟩
    · have hq := Lib.hid (feB_no (es := es) (m := m) (p := p) (by rw [hv0]; exact h2))
      have hw := Lib.hid (feV_no hq.out)
      have h3 : v < 0 := by omega
      clear hv0
      go_enter Tryd.func22, Tryd.ntmps22
      go_wp2_with (first | (go_at_call 32; (with_reducible refine (lgGood_v es A c _ hr hl _ h1).mono ?_); rintro e w1 ⟨rfl, hb1⟩) | (go_at_call 45; (with_reducible refine (lgFind_v es A c m p _ (hr.st hb1) hel v hv.out).mono ?_); rintro e w2 ⟨rfl, hb2⟩))
      go_ret2
      exact ⟨ret_ib hw.out.symm hq.out.symm, hb1.trans (hb2.mono hb1.size)⟩
end Go.Proofs.YtjhbffndiaggmaaDoor

/-
  Entries put behind the rows of a slice that a call has made. The conditions are bounds on lengths.
-/
namespace Go.Proofs.YtjhbffndiaggmaaDoor
open Go.RowKit Go.ChangeShapes Go.WideShapes
set_option linter.unusedVariables false
set_option linter.unusedSimpArgs false

section
variable {w w' : World} {lo hi : Nat} {v : Value} {rows : List (List Value)} {es : List Ent} {A : Option Addr} {c : Nat}
/-- 'append(v, l...)' : the entries that l reads as, behind the rows of v -/
theorem run_append_ents (ty : TypeId) (hown : OwnR w lo hi 46 5 v rows) {lA hA : Nat} (hr : RdE w lA hA A es) (hlen : rows.length + es.length ≤ 1073741824) (hlo : lo ≤ w.heap.size) :
    ∃ v' w' rows2, (Builtin.append_ #[35, 35] ty #[v, .slice A es.length c]).run Tryd.prog w = .ok v' w' ∧ EntRows w lA hA es rows2 ∧ OwnR w' lo w'.heap.size 46 5 v' (rows ++ rows2) ∧ w.grownBy w' v.ownBlock ∧ Below lo w w' ∧
      (v'.ownBlock = v.ownBlock ∨ v'.ownBlock = some w.heap.size) := by
  obtain ⟨i0, hi0, hz0, hz1, hz2⟩ := info_parts entInfo
  have hb : ∀ w', w.grownBy w' v.ownBlock → Below lo w w' := fun w' hg => (Below.refl lo w).grown hg hlo (fun k hk => (hown.lt k hk).1)
  rcases A with _ | ad
  · have hm : es = [] := by
      rcases Nat.eq_zero_or_pos es.length with h0 | h0
      · exact List.eq_nil_of_length_eq_zero h0
      · obtain ⟨b, off, hx, _⟩ := hr h0
        cases hx
    subst hm
    exact ⟨v, w, [], run_append_none w lo _ ty _ i0 5 Tryd.underlying35 hi0 v _ _ hown.1 c, EntRows.nil, by rw [List.append_nil]; exact hown.inH, World.grownBy.refl w _, Below.refl _ _, .inl rfl⟩
  · have hrows : ∃ rows2, EntRows w lA hA es rows2 ∧ ∀ j u, rows2.flatten[j]? = some u → w.cell? (ad.add j) = some u := by
      by_cases h0 : es.length = 0
      · have : es = [] := List.eq_nil_of_length_eq_zero h0
        subst this
        exact ⟨[], EntRows.nil, fun j u hu => by simp at hu⟩
      · obtain ⟨b, off, hx, _, _, hc⟩ := hr (by omega)
        obtain rfl : ad = ⟨b, off, none⟩ := Option.some.inj hx
        have hE : ∀ j (hj : j < es.length), ∃ r, EntRow w lA hA es[j] r ∧ ∀ i, i < 5 → w.cell? ⟨b, off + j * 5 + i, none⟩ = r[i]? := fun j hj => (hc j hj).row
        let f : Nat → List Value := fun j => if h : j < es.length then Classical.choose (hE j h) else []
        have hf : ∀ j (h : j < es.length), EntRow w lA hA es[j] (f j) ∧ ∀ i, i < 5 → w.cell? ⟨b, off + j * 5 + i, none⟩ = (f j)[i]? := fun j h => by
          have := Classical.choose_spec (hE j h)
          simp only [f, dif_pos h]
          exact this
        have hrs : EntRows w lA hA es ((List.range es.length).map f) := ⟨by simp, fun j h1 h2 => by simpa using (hf j h1).1⟩
        refine ⟨_, hrs, fun j u hu => ?_⟩
        have hadd : (⟨b, off, none⟩ : Addr).add j = ⟨b, off + j, none⟩ := by unfold Addr.add; split <;> simp_all
        have hlen2 := flat_len hrs.mem
        have hj : j < es.length * 5 := by have := (List.getElem?_eq_some_iff.1 hu).1; rw [hlen2] at this; simpa using this
        have e : j = j / 5 * 5 + j % 5 := by omega
        have hq : j / 5 < es.length := by omega
        have hm : j % 5 < 5 := by omega
        rw [e, flat_at hrs.mem (j / 5) (j % 5) (by simpa using hq) hm] at hu
        have h3 := (hf (j / 5) hq).2 (j % 5) hm
        rw [hadd]
        have e2 : off + j = off + j / 5 * 5 + j % 5 := by omega
        rw [e2, h3]
        simpa using hu
    obtain ⟨rows2, hrs, hcell⟩ := hrows
    obtain ⟨v', w', hrun, h2, h3, _, h5⟩ := run_append_own_at (P := Tryd.prog) w lo _ ty _ i0 _ 5 72 Tryd.underlying35 hi0 hz0 hz1 hz2 rfl (by omega) v _ _ hown.1 ad es.length c rows2.flatten (by rw [flat_len hrs.mem, hrs.1]) hcell
      (fun u hu => by
        obtain ⟨r, hr, hur⟩ := List.mem_flatten.1 hu
        exact hrs.oneC r hr u hur) (by simp only [maxLen]; omega) (by omega) hlo
    refine ⟨v', w', rows2, hrun, hrs, OwnR.of_row ?_ (fun r hr => ?_) (Nat.le_refl _), h3, hb w' h3, h5⟩
    · rw [List.length_append, List.flatten_append, hrs.1]; exact h2
    · rcases List.mem_append.1 hr with hr | hr
      · exact hown.2.1 r hr
      · exact hrs.mem r hr

/-- the same at a step of a region that draws its order -/
theorem step_append_ents {ops : Array Oper} {o : Oper} {a : Act} {K : Act → World → Prop} {Q : Exit → Act → World → Prop} {E : Prop} (hgd : o.guard = none) (s x : Operand)
    (ho : o.op = .call { callee := .builtin .append, args := #[s, x], argTypes := #[35, 35] }) (hs : a.eval s = v) (hown : OwnR w lo hi 46 5 v rows) (hx : a.eval x = .slice A es.length c) {l2 h2 : Nat} (hr : RdE w l2 h2 A es)
    (hlen : rows.length + es.length ≤ 1073741824) (hlo : lo ≤ w.heap.size)
    (h : ∀ v' w' rows2, EntRows w l2 h2 es rows2 → OwnR w' lo w'.heap.size 46 5 v' (rows ++ rows2) → w.grownBy w' v.ownBlock → Below lo w w' → (v'.ownBlock = v.ownBlock ∨ v'.ownBlock = some w.heap.size) → K (a.put o.dst v') w') :
    if Region.wanted o (yielded ops a.tmps) = true then Oper.wp Tryd.prog o a w K Q else E := by
  have hw : Region.wanted o (yielded ops a.tmps) = true := by simp [Region.wanted, hgd]
  rw [if_pos hw]
  obtain ⟨v', w', rows2, hrun, h1, h2, h3, h4, h5⟩ := run_append_ents o.type (c := c) hown hr hlen hlo
  unfold Oper.wp execOp
  simp only [ho, resolve, invoke, builtin, Sem.run_bind, Sem.run_pure, Result.andThen_ok, List.map_toArray, List.map_cons, List.map_nil, hs, hx, hrun]
  exact h v' w' rows2 h1 h2 h3 h4 h5
/-- 'append(v, x)' : one entry that lies in a block of its own -/
theorem run_append_one (ty : TypeId) {g cc : Nat} {row : List Value} (hown : OwnR w lo hi 46 5 v rows) (hb : ∀ i, i < 5 → w.cell? ⟨g, i, none⟩ = row[i]?) (h5 : row.length = 5) (h1 : ∀ u ∈ row, u.oneCell' = true) (hlen : rows.length + 1 ≤ 1073741824) (hlo : lo ≤ w.heap.size) :
    ∃ v' w', (Builtin.append_ #[35, 35] ty #[v, .slice (some ⟨g, 0, none⟩) 1 cc]).run Tryd.prog w = .ok v' w' ∧ OwnR w' lo w'.heap.size 46 5 v' (rows ++ [row]) ∧ w.grownBy w' v.ownBlock ∧ Below lo w w' ∧
      (v'.ownBlock = v.ownBlock ∨ v'.ownBlock = some w.heap.size) := by
  obtain ⟨i0, hi0, hz0, hz1, hz2⟩ := info_parts entInfo
  obtain ⟨v', w', hrun, h2, h3, _, h6⟩ := run_append_own_at (P := Tryd.prog) w lo _ ty _ i0 _ 5 72 Tryd.underlying35 hi0 hz0 hz1 hz2 rfl (by omega) v _ _ hown.1 ⟨g, 0, none⟩ 1 cc row (by simp [h5]) (fun j u hu => by
      have hadd : (⟨g, 0, none⟩ : Addr).add j = ⟨g, j, none⟩ := by unfold Addr.add; split <;> simp_all
      rw [hadd, hb j (by have := (List.getElem?_eq_some_iff.1 hu).1; omega), hu]) h1 (by simp only [maxLen]; omega) (by omega) hlo
  refine ⟨v', w', hrun, OwnR.of_row (by rw [List.length_append, List.flatten_append]; simpa using h2) (fun r hr => ?_) (Nat.le_refl _), h3, (Below.refl lo w).grown h3 hlo (fun k hk => (hown.lt k hk).1), h6⟩
  rcases List.mem_append.1 hr with hr | hr
  · exact hown.2.1 r hr
  · rw [List.mem_singleton.1 hr]; exact h5
theorem step_append_one {ops : Array Oper} {o : Oper} {a : Act} {K : Act → World → Prop} {Q : Exit → Act → World → Prop} {E : Prop} (hgd : o.guard = none) (s x : Operand)
    (ho : o.op = .call { callee := .builtin .append, args := #[s, x], argTypes := #[35, 35] }) {g cc : Nat} {row : List Value} (hs : a.eval s = v) (hown : OwnR w lo hi 46 5 v rows) (hx : a.eval x = .slice (some ⟨g, 0, none⟩) 1 cc)
    (hb : ∀ i, i < 5 → w.cell? ⟨g, i, none⟩ = row[i]?) (h5 : row.length = 5) (h1 : ∀ u ∈ row, u.oneCell' = true) (hlen : rows.length + 1 ≤ 1073741824) (hlo : lo ≤ w.heap.size)
    (h : ∀ v' w', OwnR w' lo w'.heap.size 46 5 v' (rows ++ [row]) → w.grownBy w' v.ownBlock → Below lo w w' → (v'.ownBlock = v.ownBlock ∨ v'.ownBlock = some w.heap.size) → K (a.put o.dst v') w') :
    if Region.wanted o (yielded ops a.tmps) = true then Oper.wp Tryd.prog o a w K Q else E := by
  have hw : Region.wanted o (yielded ops a.tmps) = true := by simp [Region.wanted, hgd]
  rw [if_pos hw]
  obtain ⟨v', w', hrun, h2, h3, h4, h6⟩ := run_append_one o.type (cc := cc) hown hb h5 h1 hlen hlo
  unfold Oper.wp execOp
  simp only [ho, resolve, invoke, builtin, Sem.run_bind, Sem.run_pure, Result.andThen_ok, List.map_toArray, List.map_cons, List.map_nil, hs, hx, hrun]
  exact h v' w' h2 h3 h4 h6
theorem bk_cells {g : Nat} {row : List Value} (hb : Bk w g 46 row.toArray) : ∀ i, i < 5 → w.cell? ⟨g, i, none⟩ = row[i]? := fun i _ => by rw [hb.cell i]; simp
theorem ent_block {g : Nat} {t m p : Int} {y z : List Int} {A1 A2 : Option Addr} {c1 c2 l h l' h' : Nat} (hk : Bk w g 46 #[.int .i64 t, .int .i64 m, .int .i64 p, .slice A1 y.length c1, .slice A2 z.length c2])
    (hy : Rd w l h A1 y) (hz : Rd w l' h' A2 z) : RdE w 0 w.heap.size (some ⟨g, 0, none⟩) [⟨t, m, p, y, z⟩] := fun _ => by
  refine ⟨g, 0, rfl, Nat.zero_le _, hk.lt, fun j hj => ?_⟩
  obtain rfl : j = 0 := by simpa using hj
  exact ⟨A1, c1, A2, c2, by simpa using hk.cell 0, by simpa using hk.cell 1, by simpa using hk.cell 2, by simpa using hk.cell 3, by simpa using hk.cell 4, hy.std, hz.std⟩
/-- an empty slice literal -/
theorem OwnR.zero {g : Nat} (h : w.heap[g]? = some (.cells #[] 46 (0, 0))) (hlo : lo ≤ g) (hhi : g < hi) : OwnR w lo hi 46 5 (.slice (some ⟨g, 0, none⟩) 0 0) [] :=
  ⟨⟨by simp, .inr ⟨g, 0, #[], rfl, hlo, h, Nat.le_refl _, by simp [maxLen], by simp, by simp⟩⟩, by simp, fun k hk => by simp [Value.ownBlock] at hk; omega⟩
end

theorem DjR.sy {r s : List Value} (h : DjR r s) : DjR s r := fun u hu v hv => (h v hv u hu).sy
theorem ents_app {w w5 : World} {l1 h1 l2 h2 lo hi : Nat} {es : List Ent} {e : Ent} {rows : List (List Value)} {r : List Value} (hL : EntsOwn w l1 h1 es rows) (hN : EntOwn w l2 h2 e r) (hd : ∀ s ∈ rows, DjR s r) (hK : KeepI w w5) (a : lo ≤ l1) (b : lo ≤ l2) (c : h1 ≤ hi) (d : h2 ≤ hi) :
    EntsOwn w5 lo hi (es ++ [e]) (rows ++ [r]) := ((hL.mono a c).snoc (hN.mono b d) hd).keepI hK
end Go.Proofs.YtjhbffndiaggmaaDoor

namespace Go.Proofs.YtjhbffndiaggmaaDoor
open Go.RowKit Go.ChangeShapes Go.WideShapes
set_option linter.unusedVariables false
set_option linter.unusedSimpArgs false

end Go.Proofs.YtjhbffndiaggmaaDoor

/-
  One entry put behind the rows of a slice that a call has made: the slice as it was before still holds its rows. The conditions are bounds on lengths.
-/
namespace Go.Proofs.YtjhbffndiaggmaaDoor
open Go.RowKit Go.ChangeShapes Go.WideShapes
set_option linter.unusedVariables false
set_option linter.unusedSimpArgs false

section
variable {P : Program} {w w' : World}
/-- the slice that was appended to still owns its row -/
theorem old_row (base : Nat) (t ty e : TypeId) (i : TypeInfo) (z : Value) (size bytes : Nat) (ht : P.underlying t = some (.slice e)) (hi : P.info? e = some i) (hz : i.zero = some z)
    (hsize : i.size = size) (hby : i.bytes = bytes) (v : Value) (n : Nat) (xs : List Value) (hown : w.ownsRow base e size v n xs)
    (a : Addr) (m c : Nat) (news : List Value) (hl : news.length = m * size) (hnews : ∀ j u, news[j]? = some u → w.cell? (a.add j) = some u) (h1 : ∀ u ∈ news, u.oneCell' = true)
    (h63 : n + m ≤ maxLen) (hbytes : (n + m) * bytes ≤ 140737488355328) {v' : Value} (hrun : (Builtin.append_ #[t, t] ty #[v, .slice (some a) m c]).run P w = .ok v' w') : w'.ownsRow base e size v n xs := by
  subst hsize
  subst hby
  refine ⟨hown.1, ?_⟩
  rcases hown.2 with hn | ⟨g, cap, cur, rfl, hbg, hg, hnc, hcm, hcs, htake⟩
  · exact .inl hn
  · by_cases hroom : n + m ≤ cap
    · have hfit : n * i.size + news.length ≤ cur.size := by rw [hl, hcs, ← Nat.add_mul]; exact Nat.mul_le_mul_right _ hroom
      have hr := run_append_room (P := P) w t ty e i ht hi g n cap cur hg a m c news hl hnews h1 hroom hfit
      have hw : w' = w.setRow g (cur.toList.take (n * i.size) ++ news ++ cur.toList.drop (n * i.size + news.length)).toArray := by
        have := hrun.symm.trans hr
        injection this
      subst hw
      refine .inr ⟨g, cap, _, rfl, hbg, setRow_heap w g cur _ e _ hg, hnc, hcm, ?_, ?_⟩
      · simp only [List.size_toArray, List.length_append, List.length_take, List.length_drop, Array.length_toList]
        omega
      · have hx : (List.take (n * i.size) cur.toList).length = n * i.size := by rw [htake]; exact hown.1
        rw [List.append_assoc, List.take_append_of_le_length (by rw [hx]; exact Nat.le_refl _), List.take_of_length_le (by rw [hx]; exact Nat.le_refl _)]
        exact htake
    · have holds : ∀ j u, xs[j]? = some u → w.cell? ((⟨g, 0, none⟩ : Addr).add j) = some u := hown.cells (g := g) rfl
      have hr := run_append_grow (P := P) w t ty e i z ht hi hz ⟨g, 0, none⟩ n cap xs hown.1 holds a m c news hl hnews (by omega) (by simp only [maxLen] at h63; omega) (growslice_fits (by omega) hbytes)
      have hw := hrun.symm.trans hr
      injection hw with _ hw
      subst hw
      refine .inr ⟨g, cap, cur, rfl, hbg, ?_, hnc, hcm, hcs, htake⟩
      have hlt : g < w.drew.heap.size := (Array.getElem?_eq_some_iff.1 hg).1
      exact (Below.heap_alloc w.drew _ g hlt).trans hg
end
section
variable {ops : Array Oper} {rest : List Oper} {o : Oper} {a : Act} {Q : Exit → Act → World → Prop} {w : World} {lo hi : Nat} {v : Value} {rows : List (List Value)}
/-- 'append(l, e)' at an operation: the new slice, and the old one as it was -/
theorem wp_append_ent (hgd : o.guard = none) (s x : Operand)
    (ho : o.op = .call { callee := .builtin .append, args := #[s, x], argTypes := #[35, 35] }) {g cc : Nat} {row : List Value} (hs : a.eval s = v) (hown : OwnR w lo hi 46 5 v rows) (hx : a.eval x = .slice (some ⟨g, 0, none⟩) 1 cc)
    (hb : ∀ i, i < 5 → w.cell? ⟨g, i, none⟩ = row[i]?) (h5 : row.length = 5) (h1 : ∀ u ∈ row, u.oneCell' = true) (hlen : rows.length + 1 ≤ 1073741824) (hlo : lo ≤ w.heap.size)
    (h : ∀ v' w', OwnR w' lo w'.heap.size 46 5 v' (rows ++ [row]) → OwnR w' lo w'.heap.size 46 5 v rows → w.grownBy w' v.ownBlock → Below lo w w' → wpList Tryd.prog ops Q rest (a.put o.dst v') w') : wpList Tryd.prog ops Q (o :: rest) a w :=
  wpList_plain hgd fun K hK => by
    obtain ⟨v', w', hrun, h2, h3, h4, h6⟩ := run_append_one o.type (cc := cc) hown hb h5 h1 hlen hlo
    obtain ⟨i0, hi0, hz0, hz1, hz2⟩ := info_parts entInfo
    have hold : OwnR w' lo w'.heap.size 46 5 v rows := by
      have hr := old_row (P := Tryd.prog) lo _ o.type _ i0 _ 5 72 Tryd.underlying35 hi0 hz0 hz1 hz2 v _ _ hown.1 ⟨g, 0, none⟩ 1 cc row (by simp [h5]) (fun j u hu => by
        have hadd : (⟨g, 0, none⟩ : Addr).add j = ⟨g, j, none⟩ := by unfold Addr.add; split <;> simp_all
        rw [hadd, hb j (by have := (List.getElem?_eq_some_iff.1 hu).1; omega), hu]) h1 (by simp only [maxLen]; omega) (by omega) hrun
      exact OwnR.of_row hr hown.2.1 (Nat.le_refl _)
    unfold Oper.wp execOp
    simp only [ho, resolve, invoke, builtin, Sem.run_bind, Sem.run_pure, Result.andThen_ok, List.map_toArray, List.map_cons, List.map_nil, hs, hx, hrun]
    exact hK _ _ (h v' w' h2 hold h3 h4)
end
end Go.Proofs.YtjhbffndiaggmaaDoor

/-
  Validity of a line's logs, in the reference and in the program. The conditions are bounds on lengths.
-/
namespace Go.Proofs.YtjhbffndiaggmaaDoor
open Go.RowKit Go.ChangeShapes Go.WideShapes
set_option linter.unusedVariables false
set_option linter.unusedSimpArgs false

def logsB (es : List (List Ent)) : Bool := inB (es.length : Int) 1 8 && es.all logB
theorem logsB_bad {es : List (List Ent)} {k : Nat} (h : k < es.length) (h1 : logB es[k] = false) : logsB es = false := by
  unfold logsB
  rw [Bool.and_eq_false_iff]; right
  rw [List.all_eq_false]
  exact ⟨es[k], List.getElem_mem h, by simp [h1]⟩
theorem logsB_len {es : List (List Ent)} (h : inB (es.length : Int) 1 8 = false) : logsB es = false := by simp [logsB, h]
theorem logsB_all {es : List (List Ent)} (h : ∀ k (_ : k < es.length), logB es[k] = true) : logsB es = inB (es.length : Int) 1 8 := by
  have : es.all logB = true := List.all_eq_true.2 fun x hx => by
    obtain ⟨k, hk, e⟩ := List.getElem_of_mem hx
    rw [← e]; exact h k hk
  simp [logsB, this]
theorem logsB_iff {es : List (List Ent)} : logsB es = true ↔ (1 ≤ es.length ∧ es.length ≤ 8) ∧ ∀ k (_ : k < es.length), logB es[k] = true := by
  unfold logsB
  rw [Bool.and_eq_true, inB_iff, List.all_eq_true]
  constructor
  · intro h; exact ⟨by omega, fun k hk => h.2 _ (List.getElem_mem hk)⟩
  · intro h
    refine ⟨by omega, fun x hx => ?_⟩
    obtain ⟨k, hk, e⟩ := List.getElem_of_mem hx
    rw [← e]; exact h.2 k hk
/-- the first that is no log -/
def nbI (es : List (List Ent)) : Int := match es.findIdx? (fun l => !logB l) with | some k => (k : Int) | none => -1
theorem nbI_at {es : List (List Ent)} {k : Nat} (h : k < es.length) (h1 : logB es[k] = false) (h2 : ∀ j (h3 : j < es.length), j < k → logB es[j] = true) : nbI es = (k : Int) := by
  have : es.findIdx? (fun l => !logB l) = some k := by
    rw [List.findIdx?_eq_some_iff_getElem]
    exact ⟨h, by simp [h1], fun j hj => by simp [h2 j (by omega) hj]⟩
  simp [nbI, this]
theorem nbI_no {es : List (List Ent)} (h : ∀ k (_ : k < es.length), logB es[k] = true) : nbI es = -1 := by
  have : es.findIdx? (fun l => !logB l) = none := by
    rw [List.findIdx?_eq_none_iff]
    intro x hx
    obtain ⟨k, hk, e⟩ := List.getElem_of_mem hx
    simp [← e, h k hk]
  simp [nbI, this]
theorem nbI_all (es : List (List Ent)) : decide (0 ≤ nbI es) = !es.all logB := by
  unfold nbI
  cases hf : es.findIdx? (fun l => !logB l) with
  | some k =>
    rw [List.findIdx?_eq_some_iff_getElem] at hf
    obtain ⟨h, h1, _⟩ := hf
    have : es.all logB = false := List.all_eq_false.2 ⟨es[k], List.getElem_mem h, by simpa using h1⟩
    simp [this]
  | none =>
    rw [List.findIdx?_eq_none_iff] at hf
    have : es.all logB = true := List.all_eq_true.2 fun x hx => by simpa using hf x hx
    simp [this]

set_option maxHeartbeats 1000000 in
theorem auGood_any (es : List (List Ent)) (A : Option Addr) (c : Nat) {l h : Nat} (w : World) (hr0 : RdEE w l h A es) (hl : esszL es ≤ 1048576) :
    Calls Tryd.prog 25 #[.slice A es.length c] w fun e w' => e = .returned (.bool (logsB es)) ∧ Below w.heap.size w w' := by
  have hr := hr0.std
  clear hr0
  have hel := essz_len es
  go_enter Tryd.func25, Tryd.ntmps25
  go_wp2
  go_loopw [4, 7] (fun _ i wr => ∃ k : Nat, k ≤ es.length ∧ i = .int .i64 k ∧ (∀ j (h : j < es.length), j < k → logB es[j] = true) ∧ Below w.heap.size w wr) (fun _ i _ => es.length - (intOf i).toNat)
  case atStart => exact ⟨0, Nat.zero_le _, rfl, fun j _ h => absurd h (by omega), Below.refl _ _⟩
  case round =>
    obtain ⟨k, hk, rfl, hall, hbr⟩ := hrel
    have hallH := Lib.hid hall
    clear hall
    by_cases hlt : k < es.length
    · obtain ⟨b, off, rfl, _, _, hc⟩ := (hr.below hbr (Nat.le_refl _)) (by omega)
      obtain ⟨A1, c1, x0, r1, _⟩ := hc k hlt
      have hat := essz_at es k hlt
      have hszr := hbr.size
      clear hc
      cases h1 : logB es[k] with
      | false =>
        have hq := Lib.hid (logsB_bad hlt h1)
        go_wp2_with (go_at_call 32; (with_reducible refine (lgGood_v es[k] A1 c1 _ r1 (by omega) _ h1).mono ?_); rintro e w1 ⟨rfl, hb1⟩)
        go_ret
        exact ⟨by rw [hq.out]; rfl, hbr.trans (hb1.mono hszr)⟩
      | true =>
        go_wp2_with (go_at_call 32; (with_reducible refine (lgGood_v es[k] A1 c1 _ r1 (by omega) _ h1).mono ?_); rintro e w1 ⟨rfl, hb1⟩)
        go_roundw
        case rel => exact ⟨k + 1, by omega, by go_num, fun j h2 h3 => by
          by_cases hj : j = k
          · subst hj; exact h1
          · exact hallH.out j h2 (by omega), hbr.trans (hb1.mono hszr)⟩
        case measure => simp [intOf]; omega
    · have hq := Lib.hid (logsB_all (es := es) fun j h1 => hallH.out j h1 (by omega))
      go_wp2_with (go_at_call 41; refine (l1In_any _ _ _ _).mono ?_; rintro e w' ⟨rfl, rfl⟩)
      go_ret
      exact ⟨by rw [hq.out]; rfl, hbr⟩
theorem alClo_any (es : List Ent) (A : Option Addr) (c : Nat) {l h : Nat} (w : World) (hr : RdE w l h A es) (hl : eszL es ≤ 1048576) (hcap : es.length ≤ c) (v : Bool) (hv : logB es = v) :
    Calls Tryd.prog 44 #[.slice A es.length c] w fun e w' => e = .returned (.bool (!v)) ∧ Below w.heap.size w w' := by
  go_enter Tryd.func44, Tryd.ntmps44
  go_wp2_with (go_at_call 35; (with_reducible refine (iIsLog_v es A c _ hr hl hcap _ hv).mono ?_); rintro e w' ⟨rfl, hb⟩)
  go_ret
  exact ⟨rfl, hb⟩
set_option maxHeartbeats 1000000 in
theorem idxL_any (es : List (List Ent)) (A : Option Addr) (c : Nat) {l h : Nat} (w : World) (hr0 : RdEE w l h A es) (hl : esszL es ≤ 1048576) :
    Calls Tryd.prog 60 #[.slice A es.length c, .func (.func 44) #[] #[]] w fun e w' => e = .returned (.int .i64 (nbI es)) ∧ Below w.heap.size w w' := by
  have hr := hr0.std
  clear hr0
  have hel := essz_len es
  go_enter Tryd.func60, Tryd.ntmps60
  go_wp2
  go_loopw [5, 8] (fun _ i wr => ∃ k : Nat, k ≤ es.length ∧ i = .int .i64 k ∧ (∀ j (h : j < es.length), j < k → logB es[j] = true) ∧ Below w.heap.size w wr) (fun _ i _ => es.length - (intOf i).toNat)
  case atStart => exact ⟨0, Nat.zero_le _, rfl, fun j _ h => absurd h (by omega), Below.refl _ _⟩
  case round =>
    obtain ⟨k, hk, rfl, hall, hbr⟩ := hrel
    have hallH := Lib.hid hall
    clear hall
    by_cases hlt : k < es.length
    · obtain ⟨b, off, rfl, _, _, hc⟩ := (hr.below hbr (Nat.le_refl _)) (by omega)
      obtain ⟨A1, c1, x0, r1, hcap⟩ := hc k hlt
      have hat := essz_at es k hlt
      have hszr := hbr.size
      clear hc
      cases h1 : logB es[k] with
      | false =>
        have hq := Lib.hid (nbI_at hlt h1 hallH.out)
        go_wp2_with (go_at_call 44; (with_reducible refine (alClo_any es[k] A1 c1 _ r1 (by omega) hcap _ h1).mono ?_); rintro e w1 ⟨rfl, hb1⟩)
        go_ret
        exact ⟨by rw [hq.out]; rfl, hbr.trans (hb1.mono hszr)⟩
      | true =>
        go_wp2_with (go_at_call 44; (with_reducible refine (alClo_any es[k] A1 c1 _ r1 (by omega) hcap _ h1).mono ?_); rintro e w1 ⟨rfl, hb1⟩)
        go_roundw
        case rel => exact ⟨k + 1, by omega, by go_num, fun j h2 h3 => by
          by_cases hj : j = k
          · subst hj; exact h1
          · exact hallH.out j h2 (by omega), hbr.trans (hb1.mono hszr)⟩
        case measure => simp [intOf]; omega
    · have hq := Lib.hid (nbI_no (es := es) fun j h1 => hallH.out j h1 (by omega))
      go_wp2
      go_ret
      exact ⟨by rw [hq.out]; rfl, hbr⟩
theorem conL_any (es : List (List Ent)) (A : Option Addr) (c : Nat) {l h : Nat} (w : World) (hr : RdEE w l h A es) (hl : esszL es ≤ 1048576) :
    Calls Tryd.prog 43 #[.slice A es.length c, .func (.func 44) #[] #[]] w fun e w' => e = .returned (.bool (!es.all logB)) ∧ Below w.heap.size w w' := by
  have hq := Lib.hid (nbI_all es)
  go_enter Tryd.func43, Tryd.ntmps43
  go_wp2_with (go_at_call 60; refine (idxL_any es A c _ hr hl).mono ?_; rintro e w' ⟨rfl, hb⟩)
  go_ret
  exact ⟨by rw [← hq.out]; rfl, hb⟩
theorem iAreLogs_any (es : List (List Ent)) (A : Option Addr) (c : Nat) {l h : Nat} (w : World) (hr : RdEE w l h A es) (hl : esszL es ≤ 1048576) :
    Calls Tryd.prog 21 #[.slice A es.length c] w fun e w' => e = .returned (.bool (logsB es)) ∧ Below w.heap.size w w' := by
  have hel := essz_len es
  cases h0 : inB (es.length : Int) 1 8 with
  | false =>
    have hq := Lib.hid (logsB_len h0)
    go_enter Tryd.func21, Tryd.ntmps21
    go_wp2_with (go_at_call 39; refine (within_any _ _ _ _).mono ?_; rintro e w' ⟨rfl, rfl⟩)
    go_ret
    exact ⟨by rw [hq.out]; rfl, Below.refl _ _⟩
  | true =>
    have hq : Hid (logsB es = es.all logB) := Lib.hid (by simp [logsB, h0])
    go_enter Tryd.func21, Tryd.ntmps21
    go_wp2_with (first | (go_at_call 39; refine (within_any _ _ _ _).mono ?_; rintro e w' ⟨rfl, rfl⟩) | (go_at_call 43; refine (conL_any es A c _ hr hl).mono ?_; rintro e w' ⟨rfl, hb⟩))
    go_ret
    exact ⟨by rw [hq.out]; simp, hb⟩
end Go.Proofs.YtjhbffndiaggmaaDoor

/-
  Contracts of LastTower and TimesOf, in the reference and in the program. The conditions are bounds on lengths.
-/
namespace Go.Proofs.YtjhbffndiaggmaaDoor
open Go.RowKit Go.ChangeShapes Go.WideShapes
set_option linter.unusedVariables false
set_option linter.unusedSimpArgs false

def paB (es : List (List Ent)) (m p : Int) : Bool := logsB es && (inB m 1 999 && inB p 0 8)
/-- how many towers from the first on have an entry of the part -/
def ltN (es : List (List Ent)) (m p : Int) : Nat := (es.takeWhile fun l => decide (0 ≤ findI l m p)).length
theorem ltN_at {es : List (List Ent)} {m p : Int} {k : Nat} (h : k < es.length) (h1 : ¬ 0 ≤ findI es[k] m p) (h2 : ∀ j (h3 : j < es.length), j < k → 0 ≤ findI es[j] m p) : ltN es m p = k := by
  unfold ltN
  induction es generalizing k with
  | nil => exact absurd h (by simp)
  | cons a es ih =>
    cases k with
    | zero =>
      have : ¬ 0 ≤ findI a m p := h1
      simp [List.takeWhile_cons, this]
    | succ k =>
      have h0 : 0 ≤ findI a m p := h2 0 (by simp) (by omega)
      have hk : k < es.length := by simpa using h
      have h1' : ¬ 0 ≤ findI es[k] m p := by simpa using h1
      have := ih hk h1' (fun j h3 hj => by have := h2 (j + 1) (by simp; omega) (by omega); rwa [List.getElem_cons_succ] at this)
      simp [List.takeWhile_cons, h0, this]
theorem ltN_all {es : List (List Ent)} {m p : Int} (h2 : ∀ j (h3 : j < es.length), 0 ≤ findI es[j] m p) : ltN es m p = es.length := by
  unfold ltN
  induction es with
  | nil => rfl
  | cons a es ih =>
    have h0 : 0 ≤ findI a m p := h2 0 (by simp)
    have := ih (fun j h3 => by have := h2 (j + 1) (by simp; omega); rwa [List.getElem_cons_succ] at this)
    simp [List.takeWhile_cons, h0, this]
def ltB (es : List (List Ent)) (m p : Int) : Bool := paB es m p && decide (0 < ltN es m p)
def ltV (es : List (List Ent)) (m p : Int) : Int := if ltB es m p then (ltN es m p : Int) - 1 else 0
theorem ltB_no {es : List (List Ent)} {m p : Int} (h : paB es m p = false) : ltB es m p = false := by simp [ltB, h]
theorem ltV_no {es : List (List Ent)} {m p : Int} (h : ltB es m p = false) : ltV es m p = 0 := by simp [ltV, h]
theorem ltB_at {es : List (List Ent)} {m p : Int} {k : Nat} (h : paB es m p = true) (hk : ltN es m p = k) : ltB es m p = decide ((0 : Int) < (k : Int)) := by simp [ltB, h, hk]
theorem ltV_at {es : List (List Ent)} {m p : Int} {k : Nat} (h : paB es m p = true) (hk : ltN es m p = k) : ltV es m p = if (0 : Int) < (k : Int) then (k : Int) - 1 else 0 := by
  unfold ltV; rw [ltB_at h hk, hk]; by_cases h0 : (0 : Int) < (k : Int) <;> simp [h0]
theorem paB_log {es : List (List Ent)} {m p : Int} (h : paB es m p = true) : logsB es = true ∧ (1 ≤ es.length ∧ es.length ≤ 8) := by
  simp only [paB, Bool.and_eq_true] at h; exact ⟨h.1, (logsB_iff.1 h.1).1⟩

/-- the time of a part's entry, or -1 -/
def tmV (l : List Ent) (m p : Int) : Int := if 0 ≤ findI l m p then (match l[(findI l m p).toNat]? with | some e => e.time | none => -1) else -1
theorem tmV_no {l : List Ent} {m p : Int} (h : ¬ 0 ≤ findI l m p) : tmV l m p = -1 := by simp [tmV, h]
theorem tmV_yes {l : List Ent} {m p : Int} {q : Nat} (h : findI l m p = (q : Int)) (hq : q < l.length) : tmV l m p = l[q].time := by simp [tmV, h, hq]
def tmM (es : List (List Ent)) (m p : Int) : List Int := es.map fun l => tmV l m p
theorem tmM_len (es : List (List Ent)) (m p : Int) : (tmM es m p).length = es.length := by simp [tmM]
theorem tmM_at (es : List (List Ent)) (m p : Int) (k : Nat) (h : k < (tmM es m p).length) : (tmM es m p)[k] = tmV (es[k]'(by simpa [tmM] using h)) m p := by simp [tmM]
def tmL (es : List (List Ent)) (m p : Int) : List Int := if paB es m p then tmM es m p else []
theorem tmL_no {es : List (List Ent)} {m p : Int} (h : paB es m p = false) : tmL es m p = [] := by simp [tmL, h]
theorem tmL_yes {es : List (List Ent)} {m p : Int} (h : paB es m p = true) : tmL es m p = tmM es m p := by simp [tmL, h]
theorem tmM_take_succ (es : List (List Ent)) (m p : Int) (k : Nat) (h : k < es.length) : (tmM es m p).take (k + 1) = (tmM es m p).take k ++ [tmV es[k] m p] := by
  rw [List.take_succ_eq_append_getElem (by simpa [tmM] using h), tmM_at]
theorem tmM_tk_succ (es : List (List Ent)) (m p : Int) (k : Nat) (h : k < es.length) : (tk (tmM es m p) k).set k (tmV es[k] m p) = tk (tmM es m p) (k + 1) := by
  have hl : k < (tmM es m p).length := by simpa [tmM] using h
  rw [← tmM_at es m p k hl]; exact tk_succ _ _ hl
theorem set_set (l : List Int) (k : Nat) (a b : Int) : (l.set k a).set k b = l.set k b := by simp
theorem findI_cast {es : List Ent} {m p : Int} (h : 0 ≤ findI es m p) : ∃ q : Nat, findI es m p = (q : Int) ∧ q < es.length := by
  rcases findI_cases es m p with ⟨k, hk, e, _⟩ | ⟨e, _⟩
  · exact ⟨k, e, hk⟩
  · omega

theorem auGood_v (es : List (List Ent)) (A : Option Addr) (c : Nat) {l h : Nat} (w : World) (hr : RdEE w l h A es) (hl : esszL es ≤ 1048576) (v : Bool) (hv : logsB es = v) :
    Calls Tryd.prog 25 #[.slice A es.length c] w fun e w' => e = .returned (.bool v) ∧ Below w.heap.size w w' := by
  rw [← hv]; exact auGood_any es A c w hr hl
theorem iAreLogs_v (es : List (List Ent)) (A : Option Addr) (c : Nat) {l h : Nat} (w : World) (hr : RdEE w l h A es) (hl : esszL es ≤ 1048576) (v : Bool) (hv : logsB es = v) :
    Calls Tryd.prog 21 #[.slice A es.length c] w fun e w' => e = .returned (.bool v) ∧ Below w.heap.size w w' := by
  rw [← hv]; exact iAreLogs_any es A c w hr hl
theorem l1In_v (n lo hi : Int) (w : World) (v : Bool) (hv : inB n lo hi = v) :
    Calls Tryd.prog 41 #[.int .i64 n, .int .i64 lo, .int .i64 hi] w fun e w' => e = .returned (.bool v) ∧ w = w' := by
  rw [← hv]; exact l1In_any n lo hi w
theorem within_v (n lo hi : Int) (w : World) (v : Bool) (hv : inB n lo hi = v) :
    Calls Tryd.prog 39 #[.int .i64 n, .int .i64 lo, .int .i64 hi] w fun e w' => e = .returned (.bool v) ∧ w = w' := by
  rw [← hv]; exact within_any n lo hi w







end Go.Proofs.YtjhbffndiaggmaaDoor
