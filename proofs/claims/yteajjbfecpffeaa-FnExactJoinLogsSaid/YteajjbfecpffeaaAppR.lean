/-
  Entries put behind the rows of a slice that a call has made. The conditions are bounds on lengths.
-/
import Derived.Test.YteajjbfecpffeaaKeep
import Derived.Test.YteajjbfecpffeaaPureE
import Derived.Test.YteajjbfecpffeaaIsLogI
import Derived.Test.YteajjbfecpffeaaFindE
namespace Go.Proofs.Yteajjbfecpffeaa
open Go.RowKit Go.ChangeShapes Go.WideShapes
set_option linter.unusedVariables false
set_option linter.unusedSimpArgs false

section
variable {w w' : World} {lo hi : Nat} {v : Value} {rows : List (List Value)} {es : List Ent} {A : Option Addr} {c : Nat}
/-- 'append(v, l...)' : the entries that l reads as, behind the rows of v -/
theorem run_append_ents (ty : TypeId) (hown : OwnR w lo hi 49 5 v rows) {lA hA : Nat} (hr : RdE w lA hA A es) (hlen : rows.length + es.length ≤ 1073741824) (hlo : lo ≤ w.heap.size) :
    ∃ v' w' rows2, (Builtin.append_ #[24, 24] ty #[v, .slice A es.length c]).run Try.prog w = .ok v' w' ∧ EntRows w lA hA es rows2 ∧ OwnR w' lo w'.heap.size 49 5 v' (rows ++ rows2) ∧ w.grownBy w' v.ownBlock ∧ Below lo w w' ∧
      (v'.ownBlock = v.ownBlock ∨ v'.ownBlock = some w.heap.size) := by
  obtain ⟨i0, hi0, hz0, hz1, hz2⟩ := info_parts entInfo
  have hb : ∀ w', w.grownBy w' v.ownBlock → Below lo w w' := fun w' hg => (Below.refl lo w).grown hg hlo (fun k hk => (hown.lt k hk).1)
  rcases A with _ | ad
  · have hm : es = [] := by
      rcases Nat.eq_zero_or_pos es.length with h0 | h0
      · exact List.eq_nil_of_length_eq_zero h0
      · obtain ⟨b, off, hx, _⟩ := hr h0
        cases hx
    subst hm
    exact ⟨v, w, [], run_append_none w lo _ ty _ i0 5 Try.underlying24 hi0 v _ _ hown.1 c, EntRows.nil, by rw [List.append_nil]; exact hown.inH, World.grownBy.refl w _, Below.refl _ _, .inl rfl⟩
  · have hrows : ∃ rows2, EntRows w lA hA es rows2 ∧ ∀ j u, rows2.flatten[j]? = some u → w.cell? (ad.add j) = some u := by
      by_cases h0 : es.length = 0
      · have : es = [] := List.eq_nil_of_length_eq_zero h0
        subst this
        exact ⟨[], EntRows.nil, fun j u hu => by simp at hu⟩
      · obtain ⟨b, off, hx, _, _, hc⟩ := hr (by omega)
        obtain rfl : ad = ⟨b, off, none⟩ := Option.some.inj hx
        have hE : ∀ j (hj : j < es.length), ∃ r, EntRow w lA hA es[j] r ∧ ∀ i, i < 5 → w.cell? ⟨b, off + j * 5 + i, none⟩ = r[i]? := fun j hj => (hc j hj).row
        let f : Nat → List Value := fun j => if h : j < es.length then Classical.choose (hE j h) else []
        have hf : ∀ j (h : j < es.length), EntRow w lA hA es[j] (f j) ∧ ∀ i, i < 5 → w.cell? ⟨b, off + j * 5 + i, none⟩ = (f j)[i]? := fun j h => by
          have := Classical.choose_spec (hE j h)
          simp only [f, dif_pos h]
          exact this
        have hrs : EntRows w lA hA es ((List.range es.length).map f) := ⟨by simp, fun j h1 h2 => by simpa using (hf j h1).1⟩
        refine ⟨_, hrs, fun j u hu => ?_⟩
        have hadd : (⟨b, off, none⟩ : Addr).add j = ⟨b, off + j, none⟩ := by unfold Addr.add; split <;> simp_all
        have hlen2 := flat_len hrs.mem
        have hj : j < es.length * 5 := by have := (List.getElem?_eq_some_iff.1 hu).1; rw [hlen2] at this; simpa using this
        have e : j = j / 5 * 5 + j % 5 := by omega
        have hq : j / 5 < es.length := by omega
        have hm : j % 5 < 5 := by omega
        rw [e, flat_at hrs.mem (j / 5) (j % 5) (by simpa using hq) hm] at hu
        have h3 := (hf (j / 5) hq).2 (j % 5) hm
        rw [hadd]
        have e2 : off + j = off + j / 5 * 5 + j % 5 := by omega
        rw [e2, h3]
        simpa using hu
    obtain ⟨rows2, hrs, hcell⟩ := hrows
    obtain ⟨v', w', hrun, h2, h3, _, h5⟩ := run_append_own_at (P := Try.prog) w lo _ ty _ i0 _ 5 72 Try.underlying24 hi0 hz0 hz1 hz2 rfl (by omega) v _ _ hown.1 ad es.length c rows2.flatten (by rw [flat_len hrs.mem, hrs.1]) hcell
      (fun u hu => by
        obtain ⟨r, hr, hur⟩ := List.mem_flatten.1 hu
        exact hrs.oneC r hr u hur) (by simp only [maxLen]; omega) (by omega) hlo
    refine ⟨v', w', rows2, hrun, hrs, OwnR.of_row ?_ (fun r hr => ?_) (Nat.le_refl _), h3, hb w' h3, h5⟩
    · rw [List.length_append, List.flatten_append, hrs.1]; exact h2
    · rcases List.mem_append.1 hr with hr | hr
      · exact hown.2.1 r hr
      · exact hrs.mem r hr

/-- the same at a step of a region that draws its order -/
theorem step_append_ents {ops : Array Oper} {o : Oper} {a : Act} {K : Act → World → Prop} {Q : Exit → Act → World → Prop} {E : Prop} (hgd : o.guard = none) (s x : Operand)
    (ho : o.op = .call { callee := .builtin .append, args := #[s, x], argTypes := #[24, 24] }) (hs : a.eval s = v) (hown : OwnR w lo hi 49 5 v rows) (hx : a.eval x = .slice A es.length c) {l2 h2 : Nat} (hr : RdE w l2 h2 A es)
    (hlen : rows.length + es.length ≤ 1073741824) (hlo : lo ≤ w.heap.size)
    (h : ∀ v' w' rows2, EntRows w l2 h2 es rows2 → OwnR w' lo w'.heap.size 49 5 v' (rows ++ rows2) → w.grownBy w' v.ownBlock → Below lo w w' → (v'.ownBlock = v.ownBlock ∨ v'.ownBlock = some w.heap.size) → K (a.put o.dst v') w') :
    if Region.wanted o (yielded ops a.tmps) = true then Oper.wp Try.prog o a w K Q else E := by
  have hw : Region.wanted o (yielded ops a.tmps) = true := by simp [Region.wanted, hgd]
  rw [if_pos hw]
  obtain ⟨v', w', rows2, hrun, h1, h2, h3, h4, h5⟩ := run_append_ents o.type (c := c) hown hr hlen hlo
  unfold Oper.wp execOp
  simp only [ho, resolve, invoke, builtin, Sem.run_bind, Sem.run_pure, Result.andThen_ok, List.map_toArray, List.map_cons, List.map_nil, hs, hx, hrun]
  exact h v' w' rows2 h1 h2 h3 h4 h5
/-- 'append(v, x)' : one entry that lies in a block of its own -/
theorem run_append_one (ty : TypeId) {g cc : Nat} {row : List Value} (hown : OwnR w lo hi 49 5 v rows) (hb : ∀ i, i < 5 → w.cell? ⟨g, i, none⟩ = row[i]?) (h5 : row.length = 5) (h1 : ∀ u ∈ row, u.oneCell' = true) (hlen : rows.length + 1 ≤ 1073741824) (hlo : lo ≤ w.heap.size) :
    ∃ v' w', (Builtin.append_ #[24, 24] ty #[v, .slice (some ⟨g, 0, none⟩) 1 cc]).run Try.prog w = .ok v' w' ∧ OwnR w' lo w'.heap.size 49 5 v' (rows ++ [row]) ∧ w.grownBy w' v.ownBlock ∧ Below lo w w' ∧
      (v'.ownBlock = v.ownBlock ∨ v'.ownBlock = some w.heap.size) := by
  obtain ⟨i0, hi0, hz0, hz1, hz2⟩ := info_parts entInfo
  obtain ⟨v', w', hrun, h2, h3, _, h6⟩ := run_append_own_at (P := Try.prog) w lo _ ty _ i0 _ 5 72 Try.underlying24 hi0 hz0 hz1 hz2 rfl (by omega) v _ _ hown.1 ⟨g, 0, none⟩ 1 cc row (by simp [h5]) (fun j u hu => by
      have hadd : (⟨g, 0, none⟩ : Addr).add j = ⟨g, j, none⟩ := by unfold Addr.add; split <;> simp_all
      rw [hadd, hb j (by have := (List.getElem?_eq_some_iff.1 hu).1; omega), hu]) h1 (by simp only [maxLen]; omega) (by omega) hlo
  refine ⟨v', w', hrun, OwnR.of_row (by rw [List.length_append, List.flatten_append]; simpa using h2) (fun r hr => ?_) (Nat.le_refl _), h3, (Below.refl lo w).grown h3 hlo (fun k hk => (hown.lt k hk).1), h6⟩
  rcases List.mem_append.1 hr with hr | hr
  · exact hown.2.1 r hr
  · rw [List.mem_singleton.1 hr]; exact h5
theorem step_append_one {ops : Array Oper} {o : Oper} {a : Act} {K : Act → World → Prop} {Q : Exit → Act → World → Prop} {E : Prop} (hgd : o.guard = none) (s x : Operand)
    (ho : o.op = .call { callee := .builtin .append, args := #[s, x], argTypes := #[24, 24] }) {g cc : Nat} {row : List Value} (hs : a.eval s = v) (hown : OwnR w lo hi 49 5 v rows) (hx : a.eval x = .slice (some ⟨g, 0, none⟩) 1 cc)
    (hb : ∀ i, i < 5 → w.cell? ⟨g, i, none⟩ = row[i]?) (h5 : row.length = 5) (h1 : ∀ u ∈ row, u.oneCell' = true) (hlen : rows.length + 1 ≤ 1073741824) (hlo : lo ≤ w.heap.size)
    (h : ∀ v' w', OwnR w' lo w'.heap.size 49 5 v' (rows ++ [row]) → w.grownBy w' v.ownBlock → Below lo w w' → (v'.ownBlock = v.ownBlock ∨ v'.ownBlock = some w.heap.size) → K (a.put o.dst v') w') :
    if Region.wanted o (yielded ops a.tmps) = true then Oper.wp Try.prog o a w K Q else E := by
  have hw : Region.wanted o (yielded ops a.tmps) = true := by simp [Region.wanted, hgd]
  rw [if_pos hw]
  obtain ⟨v', w', hrun, h2, h3, h4, h6⟩ := run_append_one o.type (cc := cc) hown hb h5 h1 hlen hlo
  unfold Oper.wp execOp
  simp only [ho, resolve, invoke, builtin, Sem.run_bind, Sem.run_pure, Result.andThen_ok, List.map_toArray, List.map_cons, List.map_nil, hs, hx, hrun]
  exact h v' w' h2 h3 h4 h6
theorem bk_cells {g : Nat} {row : List Value} (hb : Bk w g 49 row.toArray) : ∀ i, i < 5 → w.cell? ⟨g, i, none⟩ = row[i]? := fun i _ => by rw [hb.cell i]; simp
theorem ent_block {g : Nat} {t m p : Int} {y z : List Int} {A1 A2 : Option Addr} {c1 c2 l h l' h' : Nat} (hk : Bk w g 49 #[.int .i64 t, .int .i64 m, .int .i64 p, .slice A1 y.length c1, .slice A2 z.length c2])
    (hy : Rd w l h A1 y) (hz : Rd w l' h' A2 z) : RdE w 0 w.heap.size (some ⟨g, 0, none⟩) [⟨t, m, p, y, z⟩] := fun _ => by
  refine ⟨g, 0, rfl, Nat.zero_le _, hk.lt, fun j hj => ?_⟩
  obtain rfl : j = 0 := by simpa using hj
  exact ⟨A1, c1, A2, c2, by simpa using hk.cell 0, by simpa using hk.cell 1, by simpa using hk.cell 2, by simpa using hk.cell 3, by simpa using hk.cell 4, hy.std, hz.std⟩
/-- an empty slice literal -/
theorem OwnR.zero {g : Nat} (h : w.heap[g]? = some (.cells #[] 49 (0, 0))) (hlo : lo ≤ g) (hhi : g < hi) : OwnR w lo hi 49 5 (.slice (some ⟨g, 0, none⟩) 0 0) [] :=
  ⟨⟨by simp, .inr ⟨g, 0, #[], rfl, hlo, h, Nat.le_refl _, by simp [maxLen], by simp, by simp⟩⟩, by simp, fun k hk => by simp [Value.ownBlock] at hk; omega⟩
end

theorem DjR.sy {r s : List Value} (h : DjR r s) : DjR s r := fun u hu v hv => (h v hv u hu).sy
theorem ents_app {w w5 : World} {l1 h1 l2 h2 lo hi : Nat} {es : List Ent} {e : Ent} {rows : List (List Value)} {r : List Value} (hL : EntsOwn w l1 h1 es rows) (hN : EntOwn w l2 h2 e r) (hd : ∀ s ∈ rows, DjR s r) (hK : KeepI w w5) (a : lo ≤ l1) (b : lo ≤ l2) (c : h1 ≤ hi) (d : h2 ≤ hi) :
    EntsOwn w5 lo hi (es ++ [e]) (rows ++ [r]) := ((hL.mono a c).snoc (hN.mono b d) hd).keepI hK
end Go.Proofs.Yteajjbfecpffeaa

namespace Go.Proofs.Yteajjbfecpffeaa
open Go.RowKit Go.ChangeShapes Go.WideShapes
set_option linter.unusedVariables false
set_option linter.unusedSimpArgs false

set_option maxRecDepth 100000 in
theorem checkedLog_v (es : List Ent) (A : Option Addr) (n c : Nat) {l h : Nat} (w : World) (hr0 : RdE w l h A es) (hn : n = es.length) (hl : eszL es ≤ 1048576) (hca : n ≤ c) (v : Bool) (hv : logB es = v) (R : List Ent) (hR : R = if v = true then es else []) :
    Calls Try.prog 51 #[.slice A n c] w fun e w' => ∃ A' c', e = .returned (.tuple #[.slice A' R.length c', .bool v]) ∧ Hid ((v = true ∧ A' = A ∧ c' = c) ∨ (v = false ∧ A' = none ∧ c' = 0)) ∧ Below w.heap.size w w' := by
  subst hn
  have hr := hr0.std
  clear hr0
  cases v with
  | false =>
    obtain rfl : R = [] := hR
    go_enter Try.func51, Try.ntmps51
    go_wp2_with fail
    (with_reducible refine (iIsLog_v es A c _ hr hl hca _ hv).mono ?_)
    rintro e w1 ⟨rfl, hb1⟩
    go_wp2
    go_ret2
    exact ⟨none, 0, rfl, Lib.hid (by simp), hb1⟩
  | true =>
    obtain rfl : R = es := hR
    go_enter Try.func51, Try.ntmps51
    go_wp2_with fail
    (with_reducible refine (iIsLog_v R A c _ hr hl hca _ hv).mono ?_)
    rintro e w1 ⟨rfl, hb1⟩
    go_wp2
    go_ret2
    exact ⟨A, c, rfl, Lib.hid (by simp), hb1⟩
end Go.Proofs.Yteajjbfecpffeaa
