/-
  Contracts of AppendEntry, in the reference and in the program. The conditions are bounds on lengths.
-/
import Derived.Test.YtbagliaelolhcaaClone
import Derived.Test.YtbagliaelolhcaaPureE
import Derived.Test.YtbagliaelolhcaaIsLogI
import Derived.Test.YtbagliaelolhcaaFindE
namespace Go.Proofs.Ytbagliaelolhcaa
open Go.RowKit Go.ChangeShapes Go.WideShapes
set_option linter.unusedVariables false
set_option linter.unusedSimpArgs false

section
variable {w w' : World} {lo hi : Nat} {v : Value} {rows : List (List Value)} {es : List Ent} {A : Option Addr} {c : Nat}
/-- 'append(v, l...)' : the entries that l reads as, behind the rows of v -/
theorem run_append_ents (ty : TypeId) (hown : OwnR w lo hi 42 5 v rows) {lA hA : Nat} (hr : RdE w lA hA A es) (hlen : rows.length + es.length ≤ 1073741824) (hlo : lo ≤ w.heap.size) :
    ∃ v' w' rows2, (Builtin.append_ #[26, 26] ty #[v, .slice A es.length c]).run Try.prog w = .ok v' w' ∧ EntRows w lA hA es rows2 ∧ OwnR w' lo w'.heap.size 42 5 v' (rows ++ rows2) ∧ w.grownBy w' v.ownBlock ∧ Below lo w w' ∧
      (v'.ownBlock = v.ownBlock ∨ v'.ownBlock = some w.heap.size) := by
  obtain ⟨i0, hi0, hz0, hz1, hz2⟩ := info_parts entInfo
  have hb : ∀ w', w.grownBy w' v.ownBlock → Below lo w w' := fun w' hg => (Below.refl lo w).grown hg hlo (fun k hk => (hown.lt k hk).1)
  rcases A with _ | ad
  · have hm : es = [] := by
      rcases Nat.eq_zero_or_pos es.length with h0 | h0
      · exact List.eq_nil_of_length_eq_zero h0
      · obtain ⟨b, off, hx, _⟩ := hr h0
        cases hx
    subst hm
    exact ⟨v, w, [], run_append_none w lo _ ty _ i0 5 Try.underlying26 hi0 v _ _ hown.1 c, EntRows.nil, by rw [List.append_nil]; exact hown.inH, World.grownBy.refl w _, Below.refl _ _, .inl rfl⟩
  · have hrows : ∃ rows2, EntRows w lA hA es rows2 ∧ ∀ j u, rows2.flatten[j]? = some u → w.cell? (ad.add j) = some u := by
      by_cases h0 : es.length = 0
      · have : es = [] := List.eq_nil_of_length_eq_zero h0
        subst this
        exact ⟨[], EntRows.nil, fun j u hu => by simp at hu⟩
      · obtain ⟨b, off, hx, _, _, hc⟩ := hr (by omega)
        obtain rfl : ad = ⟨b, off, none⟩ := Option.some.inj hx
        have hE : ∀ j (hj : j < es.length), ∃ r, EntRow w lA hA es[j] r ∧ ∀ i, i < 5 → w.cell? ⟨b, off + j * 5 + i, none⟩ = r[i]? := fun j hj => (hc j hj).row
        let f : Nat → List Value := fun j => if h : j < es.length then Classical.choose (hE j h) else []
        have hf : ∀ j (h : j < es.length), EntRow w lA hA es[j] (f j) ∧ ∀ i, i < 5 → w.cell? ⟨b, off + j * 5 + i, none⟩ = (f j)[i]? := fun j h => by
          have := Classical.choose_spec (hE j h)
          simp only [f, dif_pos h]
          exact this
        have hrs : EntRows w lA hA es ((List.range es.length).map f) := ⟨by simp, fun j h1 h2 => by simpa using (hf j h1).1⟩
        refine ⟨_, hrs, fun j u hu => ?_⟩
        have hadd : (⟨b, off, none⟩ : Addr).add j = ⟨b, off + j, none⟩ := by unfold Addr.add; split <;> simp_all
        have hlen2 := flat_len hrs.mem
        have hj : j < es.length * 5 := by have := (List.getElem?_eq_some_iff.1 hu).1; rw [hlen2] at this; simpa using this
        have e : j = j / 5 * 5 + j % 5 := by omega
        have hq : j / 5 < es.length := by omega
        have hm : j % 5 < 5 := by omega
        rw [e, flat_at hrs.mem (j / 5) (j % 5) (by simpa using hq) hm] at hu
        have h3 := (hf (j / 5) hq).2 (j % 5) hm
        rw [hadd]
        have e2 : off + j = off + j / 5 * 5 + j % 5 := by omega
        rw [e2, h3]
        simpa using hu
    obtain ⟨rows2, hrs, hcell⟩ := hrows
    obtain ⟨v', w', hrun, h2, h3, _, h5⟩ := run_append_own_at (P := Try.prog) w lo _ ty _ i0 _ 5 72 Try.underlying26 hi0 hz0 hz1 hz2 rfl (by omega) v _ _ hown.1 ad es.length c rows2.flatten (by rw [flat_len hrs.mem, hrs.1]) hcell
      (fun u hu => by
        obtain ⟨r, hr, hur⟩ := List.mem_flatten.1 hu
        exact hrs.oneC r hr u hur) (by simp only [maxLen]; omega) (by omega) hlo
    refine ⟨v', w', rows2, hrun, hrs, OwnR.of_row ?_ (fun r hr => ?_) (Nat.le_refl _), h3, hb w' h3, h5⟩
    · rw [List.length_append, List.flatten_append, hrs.1]; exact h2
    · rcases List.mem_append.1 hr with hr | hr
      · exact hown.2.1 r hr
      · exact hrs.mem r hr

/-- the same at a step of a region that draws its order -/
theorem step_append_ents {ops : Array Oper} {o : Oper} {a : Act} {K : Act → World → Prop} {Q : Exit → Act → World → Prop} {E : Prop} (hgd : o.guard = none) (s x : Operand)
    (ho : o.op = .call { callee := .builtin .append, args := #[s, x], argTypes := #[26, 26] }) (hs : a.eval s = v) (hown : OwnR w lo hi 42 5 v rows) (hx : a.eval x = .slice A es.length c) {l2 h2 : Nat} (hr : RdE w l2 h2 A es)
    (hlen : rows.length + es.length ≤ 1073741824) (hlo : lo ≤ w.heap.size)
    (h : ∀ v' w' rows2, EntRows w l2 h2 es rows2 → OwnR w' lo w'.heap.size 42 5 v' (rows ++ rows2) → w.grownBy w' v.ownBlock → Below lo w w' → (v'.ownBlock = v.ownBlock ∨ v'.ownBlock = some w.heap.size) → K (a.put o.dst v') w') :
    if Region.wanted o (yielded ops a.tmps) = true then Oper.wp Try.prog o a w K Q else E := by
  have hw : Region.wanted o (yielded ops a.tmps) = true := by simp [Region.wanted, hgd]
  rw [if_pos hw]
  obtain ⟨v', w', rows2, hrun, h1, h2, h3, h4, h5⟩ := run_append_ents o.type (c := c) hown hr hlen hlo
  unfold Oper.wp execOp
  simp only [ho, resolve, invoke, builtin, Sem.run_bind, Sem.run_pure, Result.andThen_ok, List.map_toArray, List.map_cons, List.map_nil, hs, hx, hrun]
  exact h v' w' rows2 h1 h2 h3 h4 h5
/-- 'append(v, x)' : one entry that lies in a block of its own -/
theorem run_append_one (ty : TypeId) {g cc : Nat} {row : List Value} (hown : OwnR w lo hi 42 5 v rows) (hb : ∀ i, i < 5 → w.cell? ⟨g, i, none⟩ = row[i]?) (h5 : row.length = 5) (h1 : ∀ u ∈ row, u.oneCell' = true) (hlen : rows.length + 1 ≤ 1073741824) (hlo : lo ≤ w.heap.size) :
    ∃ v' w', (Builtin.append_ #[26, 26] ty #[v, .slice (some ⟨g, 0, none⟩) 1 cc]).run Try.prog w = .ok v' w' ∧ OwnR w' lo w'.heap.size 42 5 v' (rows ++ [row]) ∧ w.grownBy w' v.ownBlock ∧ Below lo w w' ∧
      (v'.ownBlock = v.ownBlock ∨ v'.ownBlock = some w.heap.size) := by
  obtain ⟨i0, hi0, hz0, hz1, hz2⟩ := info_parts entInfo
  obtain ⟨v', w', hrun, h2, h3, _, h6⟩ := run_append_own_at (P := Try.prog) w lo _ ty _ i0 _ 5 72 Try.underlying26 hi0 hz0 hz1 hz2 rfl (by omega) v _ _ hown.1 ⟨g, 0, none⟩ 1 cc row (by simp [h5]) (fun j u hu => by
      have hadd : (⟨g, 0, none⟩ : Addr).add j = ⟨g, j, none⟩ := by unfold Addr.add; split <;> simp_all
      rw [hadd, hb j (by have := (List.getElem?_eq_some_iff.1 hu).1; omega), hu]) h1 (by simp only [maxLen]; omega) (by omega) hlo
  refine ⟨v', w', hrun, OwnR.of_row (by rw [List.length_append, List.flatten_append]; simpa using h2) (fun r hr => ?_) (Nat.le_refl _), h3, (Below.refl lo w).grown h3 hlo (fun k hk => (hown.lt k hk).1), h6⟩
  rcases List.mem_append.1 hr with hr | hr
  · exact hown.2.1 r hr
  · rw [List.mem_singleton.1 hr]; exact h5
theorem step_append_one {ops : Array Oper} {o : Oper} {a : Act} {K : Act → World → Prop} {Q : Exit → Act → World → Prop} {E : Prop} (hgd : o.guard = none) (s x : Operand)
    (ho : o.op = .call { callee := .builtin .append, args := #[s, x], argTypes := #[26, 26] }) {g cc : Nat} {row : List Value} (hs : a.eval s = v) (hown : OwnR w lo hi 42 5 v rows) (hx : a.eval x = .slice (some ⟨g, 0, none⟩) 1 cc)
    (hb : ∀ i, i < 5 → w.cell? ⟨g, i, none⟩ = row[i]?) (h5 : row.length = 5) (h1 : ∀ u ∈ row, u.oneCell' = true) (hlen : rows.length + 1 ≤ 1073741824) (hlo : lo ≤ w.heap.size)
    (h : ∀ v' w', OwnR w' lo w'.heap.size 42 5 v' (rows ++ [row]) → w.grownBy w' v.ownBlock → Below lo w w' → (v'.ownBlock = v.ownBlock ∨ v'.ownBlock = some w.heap.size) → K (a.put o.dst v') w') :
    if Region.wanted o (yielded ops a.tmps) = true then Oper.wp Try.prog o a w K Q else E := by
  have hw : Region.wanted o (yielded ops a.tmps) = true := by simp [Region.wanted, hgd]
  rw [if_pos hw]
  obtain ⟨v', w', hrun, h2, h3, h4, h6⟩ := run_append_one o.type (cc := cc) hown hb h5 h1 hlen hlo
  unfold Oper.wp execOp
  simp only [ho, resolve, invoke, builtin, Sem.run_bind, Sem.run_pure, Result.andThen_ok, List.map_toArray, List.map_cons, List.map_nil, hs, hx, hrun]
  exact h v' w' h2 h3 h4 h6
theorem bk_cells {g : Nat} {row : List Value} (hb : Bk w g 42 row.toArray) : ∀ i, i < 5 → w.cell? ⟨g, i, none⟩ = row[i]? := fun i _ => by rw [hb.cell i]; simp
theorem ent_block {g : Nat} {t m p : Int} {y z : List Int} {A1 A2 : Option Addr} {c1 c2 l h l' h' : Nat} (hk : Bk w g 42 #[.int .i64 t, .int .i64 m, .int .i64 p, .slice A1 y.length c1, .slice A2 z.length c2])
    (hy : Rd w l h A1 y) (hz : Rd w l' h' A2 z) : RdE w 0 w.heap.size (some ⟨g, 0, none⟩) [⟨t, m, p, y, z⟩] := fun _ => by
  refine ⟨g, 0, rfl, Nat.zero_le _, hk.lt, fun j hj => ?_⟩
  obtain rfl : j = 0 := by simpa using hj
  exact ⟨A1, c1, A2, c2, by simpa using hk.cell 0, by simpa using hk.cell 1, by simpa using hk.cell 2, by simpa using hk.cell 3, by simpa using hk.cell 4, hy.std, hz.std⟩
/-- an empty slice literal -/
theorem OwnR.zero {g : Nat} (h : w.heap[g]? = some (.cells #[] 42 (0, 0))) (hlo : lo ≤ g) (hhi : g < hi) : OwnR w lo hi 42 5 (.slice (some ⟨g, 0, none⟩) 0 0) [] :=
  ⟨⟨by simp, .inr ⟨g, 0, #[], rfl, hlo, h, Nat.le_refl _, by simp [maxLen], by simp, by simp⟩⟩, by simp, fun k hk => by simp [Value.ownBlock] at hk; omega⟩
end

theorem lgGood_u (es : List Ent) (A : Option Addr) (c : Nat) {l h : Nat} (w : World) (hr : RdE w l h A es) (hl : eszL es ≤ 4194304) (hel : es.length ≤ 1048576) (v : Bool) (hv : logB es = v) :
    Calls Try.prog 86 #[.slice A es.length c] w fun e w' => e = .returned (.bool v) ∧ Below w.heap.size w w' := by
  subst hv
  exact lgGood_w es A c w hr hl hel
set_option maxRecDepth 100000 in
theorem lgIf_v (es : List Ent) (A : Option Addr) (n c : Nat) {l h : Nat} (w : World) (hr0 : RdE w l h A es) (hn : n = es.length) (hl : eszL es ≤ 4194304) (hel : es.length ≤ 1048576) (v : Bool) (hv : logB es = v) (R : List Ent) (hR : R = if v = true then es else []) :
    Calls Try.prog 103 #[.slice A n c] w fun e w' => ∃ A' c', e = .returned (.tuple #[.slice A' R.length c', .bool v]) ∧ OwnE w' w.heap.size w'.heap.size (.slice A' R.length c') R ∧ Below w.heap.size w w' := by
  subst hn
  have hr := hr0.std
  clear hr0
  cases v with
  | false =>
    obtain rfl : R = [] := hR
    go_enter Try.func103, Try.ntmps103
    go_wp2_with fail
    (with_reducible refine (lgGood_u es A c _ hr hl hel _ hv).mono ?_)
    rintro e w1 ⟨rfl, hb1⟩
    go_wp2
    go_ret2
    exact ⟨none, 0, rfl, OwnE.nil, hb1⟩
  | true =>
    obtain rfl : R = es := hR
    have hsz := log_esz hv
    go_enter Try.func103, Try.ntmps103
    go_wp2_with fail
    (with_reducible refine (lgGood_u R A c _ hr hl hel _ hv).mono ?_)
    rintro e w1 ⟨rfl, hb1⟩
    go_wp2_with fail
    (with_reducible refine (lgOwn_any R A c _ (hr.st hb1) (by omega)).mono ?_)
    rintro e w2 ⟨v2, rows, rfl, o2, e2, hb2⟩
    have hO := EntsOwn.ownE o2 e2
    obtain ⟨A2, c2, rfl, -, -⟩ := hO.rd
    have hB := hb1.trans (hb2.mono hb1.size)
    have hOH := Lib.hid (hO.mono hb1.size (Nat.le_refl _))
    clear o2 e2 hO hb2
    go_wp2
    go_ret2
    exact ⟨A2, c2, rfl, hOH.out, hB⟩
theorem ae_size {es : List Ent} {t m p : Int} {y z : List Int} : eszL (aeL es t m p y z) ≤ 1048576 := by
  unfold aeL
  split
  · rename_i h
    simp only [aeB, Bool.and_eq_true] at h
    have := log_esz h.2
    omega
  · rw [esz_nil]; omega
set_option maxRecDepth 100000 in
set_option maxHeartbeats 4000000 in
theorem sAppendEntry_any (es : List Ent) (A : Option Addr) (c : Nat) (t m p : Int) (y : List Int) (A1 : Option Addr) (c1 : Nat) (z : List Int) (A2 : Option Addr) (c2 : Nat) {l h l1 h1 l2 h2 : Nat} (w : World) (hr0 : RdE w l h A es) (hy0 : Rd w l1 h1 A1 y) (hz0 : Rd w l2 h2 A2 z)
    (hl : eszL es ≤ 1048576) (hly : y.length ≤ 1048576) (hlz : z.length ≤ 1048576) :
    Calls Try.prog 24 #[.slice A es.length c, .agg #[.int .i64 t, .int .i64 m, .int .i64 p, .slice A1 y.length c1, .slice A2 z.length c2]] w fun e w' => ∃ A c, e = .returned (.tuple #[.slice A (aeL es t m p y z).length c, .bool (aeB es t m p y z)]) ∧ RdE w' 0 w'.heap.size A (aeL es t m p y z) ∧ eszL (aeL es t m p y z) ≤ 1048576 ∧ Below w.heap.size w w' := by
  have hr := hr0.std
  have hy := hy0.std
  have hz := hz0.std
  clear hr0 hy0 hz0
  have hsz := Lib.hid (ae_size (es := es) (t := t) (m := m) (p := p) (y := y) (z := z))
  obtain ⟨EB, hEB⟩ : ∃ EB, EB = Obj.cells #[.int .i64 t, .int .i64 m, .int .i64 p, .slice A1 y.length c1, .slice A2 z.length c2] 42 (0, 0) := ⟨_, rfl⟩
  cases q1 : logB es with
  | false =>
    have hq : aeB es t m p y z = false := by simp [aeB, q1]
    rw [aeL_no hq, hq]
    clear hq hsz
    go_enter Try.func24, Try.ntmps24
    go_wp2_with fail
    (with_reducible refine (lgGood_u es A c _ (hr.alloc _) (by omega) (by have := esz_len es; omega) _ q1).mono ?_)
    rintro e w1 ⟨rfl, hb1⟩
    have hB := ((Below.refl w.heap.size w).alloc (Nat.le_refl _) _).trans (hb1.mono (by simp))
    go_wp2
    go_ret2
    exact ⟨none, 0, rfl, RdE.nil, by rw [esz_nil]; omega, hB⟩
  | true =>
    have hel := log_len q1
    have hes := log_esz q1
    obtain ⟨v, hv⟩ : ∃ v, logB (es ++ [⟨t, m, p, y, z⟩]) = v := ⟨_, rfl⟩
    have haeB : aeB es t m p y z = v := by rw [aeB, q1, hv]; rfl
    have haeL : aeL es t m p y z = if v = true then es ++ [⟨t, m, p, y, z⟩] else [] := by unfold aeL; rw [haeB]
    rw [haeB]
    obtain ⟨R, hR⟩ : ∃ R, R = aeL es t m p y z := ⟨_, rfl⟩
    rw [← hR] at haeL hsz ⊢
    have hvH := Lib.hid hv
    have haeLH := Lib.hid haeL
    clear hv haeB haeL hR
    go_enter Try.func24, Try.ntmps24
    go_wp2_with fail
    rw [← hEB]
    (with_reducible refine (lgGood_u es A c _ (hr.alloc _) (by omega) (by omega) _ q1).mono ?_)
    rintro e w1 ⟨rfl, hb1⟩
    have hs0 : (w.alloc EB).heap.size = w.heap.size + 1 := by simp
    have hB := ((Below.refl w.heap.size w).alloc (Nat.le_refl _) EB).trans (hb1.mono (by simp))
    have hs1 : w.heap.size + 1 ≤ w1.heap.size := by have := hb1.size; omega
    have hr1 := (hr.alloc EB).st hb1
    have hy1 := (hy.alloc EB).st hb1
    have hz1 := (hz.alloc EB).st hb1
    have bk : Bk w1 w.heap.size 42 #[.int .i64 t, .int .i64 m, .int .i64 p, .slice A1 y.length c1, .slice A2 z.length c2] := by
      have h5 : Bk (w.alloc EB) w.heap.size 42 #[.int .i64 t, .int .i64 m, .int .i64 p, .slice A1 y.length c1, .slice A2 z.length c2] := by rw [hEB]; exact Bk.new w _ _
      exact h5.st hb1
    have y0 := bk.cell 0
    have y1 := bk.cell 1
    have y2 := bk.cell 2
    have y3 := bk.cell 3
    have y4 := bk.cell 4
    simp at y0 y1 y2 y3 y4
    clear q1 hb1 hs0 bk hr hy hz
    have hrow : EntRow w1 0 w.heap.size ⟨t, m, p, y, z⟩ [.int .i64 t, .int .i64 m, .int .i64 p, .slice A1 y.length c1, .slice A2 z.length c2] := ⟨A1, c1, A2, c2, rfl, hy1, hz1⟩
    have hsum : eszL (es ++ [⟨t, m, p, y, z⟩]) ≤ 4194304 := by rw [esz_append, esz_one]; show eszL es + (1 + (y.length + z.length)) ≤ _; omega
    have hsumH := Lib.hid hsum
    have hB0 : Below w1.heap.size w1 w1.drew := (Below.refl w1.heap.size w1).drew
    clear hy1 hz1 hsum
    go_wp2_with fail
    go_region_held3 (fun w' => w'.cell? ⟨w.heap.size, 0, none⟩ = some (.int .i64 t) ∧ w'.cell? ⟨w.heap.size, 1, none⟩ = some (.int .i64 m) ∧ w'.cell? ⟨w.heap.size, 2, none⟩ = some (.int .i64 p) ∧ w'.cell? ⟨w.heap.size, 3, none⟩ = some (.slice A1 y.length c1) ∧ w'.cell? ⟨w.heap.size, 4, none⟩ = some (.slice A2 z.length c2))
      (((try go_split_ands); (try dsimp only); (repeat' apply And.intro) <;> (first | assumption | ((refine (hc4 _ _ (by omega)).trans ?_); assumption) | ((refine (Below.cell (B := w1.heap.size) (w := w1) ?_ (by dsimp only; omega)).trans ?_) <;> first | assumption | (repeat first | exact Below.refl _ _ | exact hB2 | exact hB3 | refine Below.drew ?_ | refine Below.alloc ?_ (by first | omega | (simp <;> omega)) _)))))
      (first

        | (refine step_append_ents (v := .slice (some ⟨_, 0, none⟩) 0 0) rfl (.tmp 9) (.tmp 10) rfl rfl (OwnR.zero (lo := w1.heap.size) (hi := w1.heap.size + 2) (by first | exact Bk.new _ _ _ | exact Bk.new2 _ _ _ _ | exact (Bk.new _ _ _).alloc _) (by omega) (by omega)) rfl (by first | exact hr1.drew.alloc _ | exact (hr1.drew.alloc _).alloc _) (by simp; omega) (by simp <;> omega) ?_; intro v2 w2 rows2 hrr2 ho2 hg2 hb2 hat2;
            (have hE2 := hrr2.below hb2 (by omega)); (have hB2 : Below w1.heap.size w1 w2 := by first | exact (hB0.alloc (Nat.le_refl _) _).trans hb2 | exact ((hB0.alloc (Nat.le_refl _) _).alloc (by simp) _).trans hb2); (have hc2 := (bcell hB2).1); (have s2 := hB2.size); rw [List.nil_append] at ho2)
        | (refine step_append_one rfl (.tmp 11) (.tmp 13) rfl rfl (by first | exact ho2.alloc _ | exact ho2) rfl (row := [.int .i64 t, .int .i64 m, .int .i64 p, .slice A1 y.length c1, .slice A2 z.length c2]) (bk_cells (by first | exact Bk.new _ _ _ | exact (hg2.block _ (by simp) (by simp [Value.ownBlock])).trans (Bk.new2 _ _ _ _) | exact (hg2.block _ (by simp <;> omega) (by simp [Value.ownBlock])).trans ((Bk.new _ _ _).alloc _))) rfl (by simp [Value.oneCell']) (by rw [hrr2.1]; omega) (by first | exact s2 | (simp <;> omega)) ?_; intro v3 w3 ho3 hg3 hb3 hat3;
            (have hB3 : Below w1.heap.size w1 w3 := by first | exact hB2.trans hb3 | exact (hB2.alloc s2 _).trans hb3); (have hE3 := (hE2.keep (w' := w3) (fun b o _ h2 _ => (hB3.cell (p := ⟨b, o, none⟩) (by show b < w1.heap.size; omega)).trans (hB2.cell (p := ⟨b, o, none⟩) (by show b < w1.heap.size; omega)).symm)).snoc (hrow.keep (w' := w3) (fun b o _ h2 _ => hB3.cell (p := ⟨b, o, none⟩) (by show b < w1.heap.size; omega)))); (have hc3 := (bcell hB3).1); (obtain ⟨A3, c3, rfl, -, -, -, -⟩ := ho3.cells); (have hrd := ho3.rdE hE3))
        | (go_at_call 103; ((with_reducible refine (lgIf_v (es ++ [⟨t, m, p, y, z⟩]) A3 _ c3 _ hrd.1 (by simp) hsumH.out (by simp; omega) _ hvH.out R haeLH.out).mono ?_); rintro e w4 ⟨A4, c4, rfl, ho4, hb4⟩; (have hB4 := Lib.hid (hB3.trans (hb4.mono hB3.size))); (have ho4H := Lib.hid ho4); (have hc4 := (bcell hB4.out).1))))
    all_goals
      have hBH := Lib.hid (hB.trans (hB4.out.mono (by omega)))
      have hrd4 := Lib.hid (ho4H.out.rd'.std)
      clear hB0 hB2 hB3 hb2 hb3 hb4 ho2 ho3 ho4 hE2 hE3 hrd hrr2 hg2 hg3 hc2 hc3 hc4 hat2 hat3 hrow hr1 hB y0 y1 y2 y3 y4
      go_wp2
      go_ret2
      exact ⟨A4, c4, rfl, hrd4.out, hsz.out, hBH.out⟩
theorem DjR.sy {r s : List Value} (h : DjR r s) : DjR s r := fun u hu v hv => (h v hv u hu).sy
theorem cloneLog_n (es : List Ent) (A : Option Addr) (n c : Nat) {l h : Nat} (w : World) (hr0 : RdE w l h A es) (hn : n = es.length) (hl : eszL es ≤ 1048576) :
    Calls Try.prog 99 #[.slice A n c] w fun e w' => ∃ v rows, e = .returned v ∧ OwnR w' w.heap.size w'.heap.size 42 5 v rows ∧ EntsOwn w' w.heap.size w'.heap.size es rows ∧ Below w.heap.size w w' := by
  subst hn; exact cloneLog_any es A c w hr0 hl
theorem ents_app {w w5 : World} {l1 h1 l2 h2 lo hi : Nat} {es : List Ent} {e : Ent} {rows : List (List Value)} {r : List Value} (hL : EntsOwn w l1 h1 es rows) (hN : EntOwn w l2 h2 e r) (hd : ∀ s ∈ rows, DjR s r) (hK : KeepI w w5) (a : lo ≤ l1) (b : lo ≤ l2) (c : h1 ≤ hi) (d : h2 ≤ hi) :
    EntsOwn w5 lo hi (es ++ [e]) (rows ++ [r]) := ((hL.mono a c).snoc (hN.mono b d) hd).keepI hK
set_option maxRecDepth 100000 in
theorem checkedLog_v (es : List Ent) (A : Option Addr) (n c : Nat) {l h : Nat} (w : World) (hr0 : RdE w l h A es) (hn : n = es.length) (hl : eszL es ≤ 1048576) (hca : n ≤ c) (v : Bool) (hv : logB es = v) (R : List Ent) (hR : R = if v = true then es else []) :
    Calls Try.prog 105 #[.slice A n c] w fun e w' => ∃ A' c', e = .returned (.tuple #[.slice A' R.length c', .bool v]) ∧ Hid ((v = true ∧ A' = A ∧ c' = c) ∨ (v = false ∧ A' = none ∧ c' = 0)) ∧ Below w.heap.size w w' := by
  subst hn
  have hr := hr0.std
  clear hr0
  cases v with
  | false =>
    obtain rfl : R = [] := hR
    go_enter Try.func105, Try.ntmps105
    go_wp2_with fail
    (with_reducible refine (iIsLog_v es A c _ hr hl hca _ hv).mono ?_)
    rintro e w1 ⟨rfl, hb1⟩
    go_wp2
    go_ret2
    exact ⟨none, 0, rfl, Lib.hid (by simp), hb1⟩
  | true =>
    obtain rfl : R = es := hR
    go_enter Try.func105, Try.ntmps105
    go_wp2_with fail
    (with_reducible refine (iIsLog_v R A c _ hr hl hca _ hv).mono ?_)
    rintro e w1 ⟨rfl, hb1⟩
    go_wp2
    go_ret2
    exact ⟨A, c, rfl, Lib.hid (by simp), hb1⟩
set_option maxRecDepth 100000 in
set_option maxHeartbeats 4000000 in
theorem iAppendEntry_any (es : List Ent) (A : Option Addr) (c : Nat) (t m p : Int) (y : List Int) (A1 : Option Addr) (c1 : Nat) (z : List Int) (A2 : Option Addr) (c2 : Nat) {l h l1 h1 l2 h2 : Nat} (w : World) (hr0 : RdE w l h A es) (hy0 : Rd w l1 h1 A1 y) (hz0 : Rd w l2 h2 A2 z)
    (hl : eszL es ≤ 1048576) (hly : y.length ≤ 1048576) (hlz : z.length ≤ 1048576) (hca : es.length ≤ c) :
    Calls Try.prog 26 #[.slice A es.length c, .agg #[.int .i64 t, .int .i64 m, .int .i64 p, .slice A1 y.length c1, .slice A2 z.length c2]] w fun e w' => ∃ A c, e = .returned (.tuple #[.slice A (aeL es t m p y z).length c, .bool (aeB es t m p y z)]) ∧ OwnE w' w.heap.size w'.heap.size (.slice A (aeL es t m p y z).length c) (aeL es t m p y z) ∧ eszL (aeL es t m p y z) ≤ 1048576 ∧ Below w.heap.size w w' := by
  have hr := hr0.std
  have hy := hy0.std
  have hz := hz0.std
  clear hr0 hy0 hz0
  have hsz := Lib.hid (ae_size (es := es) (t := t) (m := m) (p := p) (y := y) (z := z))
  obtain ⟨EB, hEB⟩ : ∃ EB, EB = Obj.cells #[.int .i64 t, .int .i64 m, .int .i64 p, .slice A1 y.length c1, .slice A2 z.length c2] 42 (0, 0) := ⟨_, rfl⟩
  have hs0 : (w.alloc EB).heap.size = w.heap.size + 1 := by simp
  have bk0 : Bk (w.alloc EB) w.heap.size 42 #[.int .i64 t, .int .i64 m, .int .i64 p, .slice A1 y.length c1, .slice A2 z.length c2] := by rw [hEB]; exact Bk.new w _ _
  have hra := hr.alloc EB
  have hya := hy.alloc EB
  have hza := hz.alloc EB
  have hBa := (Below.refl w.heap.size w).alloc (Nat.le_refl _) EB
  clear hr hy hz
  cases q1 : logB es with
  | false =>
    have hq : aeB es t m p y z = false := by simp [aeB, q1]
    rw [aeL_no hq, hq]
    clear hq hsz bk0
    go_enter Try.func26, Try.ntmps26
    go_wp2_with fail
    rw [← hEB]
    (with_reducible refine (iIsLog_v es A c _ hra hl hca _ q1).mono ?_)
    rintro e w1 ⟨rfl, hb1⟩
    have hB := hBa.trans (hb1.mono (by omega))
    go_wp2
    go_ret2
    exact ⟨none, 0, rfl, OwnE.nil, by rw [esz_nil]; omega, hB⟩
  | true =>
    cases q2 : enB t m p y z with
    | false =>
      have hq : aeB es t m p y z = false := aeB_en q2
      rw [aeL_no hq, hq]
      clear hq hsz
      go_enter Try.func26, Try.ntmps26
      go_wp2_with fail
      rw [← hEB]
      (with_reducible refine (iIsLog_v es A c _ hra hl hca _ q1).mono ?_)
      rintro e w1 ⟨rfl, hb1⟩
      have hB := hBa.trans (hb1.mono (by omega))
      have hy1 := hya.st hb1
      have hz1 := hza.st hb1
      have bk := bk0.st hb1
      have y0 := bk.cell 0
      have y1 := bk.cell 1
      have y2 := bk.cell 2
      have y3 := bk.cell 3
      have y4 := bk.cell 4
      simp at y0 y1 y2 y3 y4
      have hsB := hB.size
      clear q1 hb1 bk bk0 hra hya hza
      go_wp2_with fail
      (with_reducible refine (iIsEntry_v t m p y A1 c1 z A2 c2 _ hy1 hz1 (by omega) (by omega) _ q2).mono ?_)
      rintro e w2 ⟨rfl, hb2⟩
      have hB2 := hB.trans (hb2.mono hsB)
      go_wp2
      go_ret2
      exact ⟨none, 0, rfl, OwnE.nil, by rw [esz_nil]; omega, hB2⟩
    | true =>
      have hel := log_len q1
      have hes := log_esz q1
      have hly2 : y.length ≤ 1000 ∧ z.length ≤ 1000 := by
        simp only [enB, Bool.and_eq_true] at q2
        exact ⟨sg_len q2.2.2.2.1, sg_len q2.2.2.2.2⟩
      obtain ⟨v, hv⟩ : ∃ v, logB (es ++ [⟨t, m, p, y, z⟩]) = v := ⟨_, rfl⟩
      have haeB : aeB es t m p y z = v := by rw [aeB, q1, hv]; rfl
      have haeL : aeL es t m p y z = if v = true then es ++ [⟨t, m, p, y, z⟩] else [] := by unfold aeL; rw [haeB]
      rw [haeB]
      obtain ⟨R, hR⟩ : ∃ R, R = aeL es t m p y z := ⟨_, rfl⟩
      rw [← hR] at haeL hsz ⊢
      have hvH := Lib.hid hv
      have haeLH := Lib.hid haeL
      clear hv haeB haeL hR
      go_enter Try.func26, Try.ntmps26
      go_wp2_with fail
      rw [← hEB]
      (with_reducible refine (iIsLog_v es A c _ hra hl hca _ q1).mono ?_)
      rintro e w1 ⟨rfl, hb1⟩
      have hB := hBa.trans (hb1.mono (by omega))
      have hy1 := hya.st hb1
      have hz1 := hza.st hb1
      have hr1 := hra.st hb1
      have bk := bk0.st hb1
      have y0 := bk.cell 0
      have y1 := bk.cell 1
      have y2 := bk.cell 2
      have y3 := bk.cell 3
      have y4 := bk.cell 4
      simp at y0 y1 y2 y3 y4
      have hsB : w.heap.size + 1 ≤ w1.heap.size := by have := hb1.size; omega
      clear q1 hb1 bk bk0 hra hya hza hBa hs0
      go_wp2_with fail
      (with_reducible refine (iIsEntry_v t m p y A1 c1 z A2 c2 _ hy1 hz1 (by omega) (by omega) _ q2).mono ?_)
      rintro e w2 ⟨rfl, hb2⟩
      have hB2 := hB.trans (hb2.mono (by omega))
      have s2 := hb2.size
      have hr2 := hr1.st hb2
      have hy2 := hy1.st hb2
      have hz2 := hz1.st hb2
      have k2 := (bcell hb2).1
      have u0 := (k2 _ _ (by omega)).trans y0
      have u1 := (k2 _ _ (by omega)).trans y1
      have u2 := (k2 _ _ (by omega)).trans y2
      have u3 := (k2 _ _ (by omega)).trans y3
      have u4 := (k2 _ _ (by omega)).trans y4
      have hsum : eszL (es ++ [⟨t, m, p, y, z⟩]) ≤ 1048576 := by rw [esz_append, esz_one]; show eszL es + (1 + (y.length + z.length)) ≤ _; omega
      have hsum1 : eszL [(⟨t, m, p, y, z⟩ : Ent)] ≤ 1048576 := by rw [esz_one]; show 1 + (y.length + z.length) ≤ _; omega
      have hsumH := Lib.hid hsum
      have hsum1H := Lib.hid hsum1
      have hB0 : Below w2.heap.size w2 w2 := Below.refl _ _
      clear y0 y1 y2 y3 y4 k2 hb2 hy1 hz1 hr1 hsum hsum1 q2 hB
      go_wp2_with fail
      go_region_held3 (fun w' => w'.cell? ⟨w.heap.size, 0, none⟩ = some (.int .i64 t) ∧ w'.cell? ⟨w.heap.size, 1, none⟩ = some (.int .i64 m) ∧ w'.cell? ⟨w.heap.size, 2, none⟩ = some (.int .i64 p) ∧ w'.cell? ⟨w.heap.size, 3, none⟩ = some (.slice A1 y.length c1) ∧ w'.cell? ⟨w.heap.size, 4, none⟩ = some (.slice A2 z.length c2))
        (((try go_split_ands); (try dsimp only); (repeat' apply And.intro) <;> (first | assumption | ((refine (Below.cell (B := w2.heap.size) (w := w2) ?_ (by dsimp only; omega)).trans ?_) <;> first | assumption | (repeat first | exact Below.refl _ _ | exact hBz.out | exact hBy.out | exact hBx.out | exact hBv.out | refine Below.drew ?_ | refine Below.alloc ?_ (by first | omega | (simp <;> omega)) _)))))
        (first
          | (go_at_call 99; ((with_reducible refine (cloneLog_any es A c _ (l := 0) (h := w.heap.size) (by first | exact hr2 | exact hr2.drew | exact (hr2.alloc _).drew | exact hr2.below hBv.out (by omega)) hl).mono ?_); rintro e w3 ⟨v3, rows3, rfl, ho3, he3, hb3⟩);
              (have hBx : Hid (Below w2.heap.size w2 w3) := Lib.hid (by first | exact hB0.drew.trans hb3 | exact ((hB0.alloc (Nat.le_refl _) _).drew).trans (hb3.mono (by simp)) | exact hBv.out.trans (hb3.mono hBv.out.size))); (have s3 := hBx.out.size))
          | (go_at_call 99; ((with_reducible refine (cloneLog_n [⟨t, m, p, y, z⟩] (some ⟨_, 0, none⟩) 1 1 _ (ent_block (g := _) (by first | exact Bk.new _ _ _ | exact (Bk.new _ _ _).drew | exact ((Bk.new _ _ _).drew).st hb3) (by first | exact (hy2.alloc _).drew | exact (hy2.below hBx.out (by omega)).alloc _ | exact hy2.below hBx.out (by omega)) (by first | exact (hz2.alloc _).drew | exact (hz2.below hBx.out (by omega)).alloc _ | exact hz2.below hBx.out (by omega))) rfl hsum1H.out).mono ?_); rintro e w4 ⟨v4, rows4, rfl, ho4, he4, hb4⟩);
              (have hBv : Hid (Below w2.heap.size w2 w4) := Lib.hid (by first | exact ((hB0.alloc (Nat.le_refl _) _).drew).trans (hb4.mono (by simp)) | exact hBx.out.trans (hb4.mono hBx.out.size) | exact (hBx.out.alloc hBx.out.size _).trans (hb4.mono (by have := hBx.out.size; simp; omega)))); (have s4 := hBv.out.size);
              (obtain ⟨r4, rfl⟩ : ∃ r, rows4 = [r] := List.length_eq_one_iff.1 he4.len); (obtain ⟨A4, cc4, rfl, -, -, -, hx4⟩ := ho4.cells); (obtain ⟨g4, rfl, -, -, hg4, -, hc4⟩ := hx4 (by simp)); (have he4r := he4.ent 0 (by simp) (by simp)); (simp only [List.getElem_cons_zero] at he4r); (have hcl4 : ∀ i, i < 5 → w4.cell? ⟨g4, i, none⟩ = r4[i]? := fun i hi => by have := hc4 0 (by simp) i hi; simpa using this); (clear hx4 hc4))
          | (refine step_append_one rfl (.tmp 15) (.tmp 18) rfl (v := v3) rfl (lo := w2.heap.size) (by first | exact (ho3.st hb4).mono (by simp) (Nat.le_refl _) | exact ((ho3.alloc _).st hb4).mono (by simp) (Nat.le_refl _) | exact ho3.mono hBv.out.size (Nat.le_refl _)) rfl (by first | exact hcl4 | exact fun i hi => (hb3.cell (p := ⟨g4, i, none⟩) hg4).trans (hcl4 i hi)) he4r.len (he4r.row.one) (by rw [he3.len]; omega) (by first | exact hBv.out.size | exact hBx.out.size) ?_; intro v5 w5 ho5 hg5 hb5 hat5;
              (have hdj : ∀ s ∈ rows3, DjR s r4 := fun s hs => by (obtain ⟨e', he'⟩ := he3.mem hs); first | exact he'.dj_lt he4r (by first | exact Nat.le_refl _ | (simp <;> omega)) | exact (he4r.dj_lt he' (by first | exact Nat.le_refl _ | (simp <;> omega))).sy);
              (have hBy : Hid (Below w2.heap.size w2 w5) := Lib.hid (by first | exact hBv.out.trans hb5 | exact hBx.out.trans hb5)); (have s5 := hBy.out.size); (have t3 := hb3.size); (have t4 := hb4.size); (have t5 := hb5.size); (try simp at t3); (try simp at t4);
              (have he5 : EntsOwn w5 w2.heap.size w5.heap.size (es ++ [⟨t, m, p, y, z⟩]) (rows3 ++ [r4]) := by first
                | exact ents_app ((he3.alloc _).st hb4) he4r hdj (KeepI.grown ((ho3.alloc _).st hb4) hg5 (by decide)) (by first | omega | (simp <;> omega)) (by first | omega | (simp <;> omega)) (by omega) (by omega)
                | exact ents_app (he3.st hb4) he4r hdj (KeepI.grown (ho3.st hb4) hg5 (by decide)) (by first | omega | (simp <;> omega)) (by first | omega | (simp <;> omega)) (by omega) (by omega)
                | exact ents_app he3 (he4r.keep (fun k _ _ h3 => hb3.block k h3)) hdj (KeepI.grown ho3 hg5 (by decide)) (by first | omega | (simp <;> omega)) (by first | omega | (simp <;> omega)) (by omega) (by omega));
              (have hO5 := EntsOwn.ownE ho5 he5); (obtain ⟨A5, c5, rfl, hcap5, -, -, -⟩ := ho5.cells); (have hrd5 := ho5.rdE he5.rws); (have hln5 := Lib.hid hrd5.2.1); (have hcp5 : es.length + 1 ≤ c5 := by have h1 := he3.len; simp at hcap5; omega))
          | (go_at_call 105; ((with_reducible refine (checkedLog_v (es ++ [⟨t, m, p, y, z⟩]) A5 _ c5 _ hrd5.1 (by simp) hsumH.out hcp5 _ hvH.out R haeLH.out).mono ?_); rintro e w6 ⟨A6, c6, rfl, hcs, hb6⟩; (have hBz : Hid (Below w2.heap.size w2 w6) := Lib.hid (hBy.out.trans (hb6.mono s5)))))
          | fail)
      all_goals
        have hBH := Lib.hid (hB2.trans (hBz.out.mono (by omega)))
        have hO6 := Lib.hid (hO5.st hb6)
        have hsH := Lib.hid (show w.heap.size ≤ w2.heap.size ∧ w5.heap.size ≤ w6.heap.size from ⟨by omega, hb6.size⟩)
        clear hO5 hb6 hBz hb3 hb4 hb5 ho3 ho4 ho5 he3 he4 he5 he4r hcl4 hdj hat5 hg5 hrd5 hcap5 hcp5 hr2 hy2 hz2 u0 u1 u2 u3 u4 hB2 hB0
        go_wp2
        go_ret2
        refine ⟨A6, c6, rfl, ?_, hsz.out, hBH.out⟩
        have hR := haeLH.out
        rcases hcs.out with ⟨hv, hA, hc⟩ | ⟨hv, hA, hc⟩
        · rw [if_pos hv] at hR
          rw [hA, hc, hR]
          have := hO6.out.mono hsH.out.1 hsH.out.2
          rwa [hln5.out] at this
        · rw [if_neg (by simp [hv])] at hR
          rw [hA, hc, hR]
          exact OwnE.nil
end Go.Proofs.Ytbagliaelolhcaa
