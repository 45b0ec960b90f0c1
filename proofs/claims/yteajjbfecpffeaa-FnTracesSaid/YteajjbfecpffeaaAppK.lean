/-
  One entry put behind the rows of a slice that a call has made: the slice as it was before still holds its rows. The conditions are bounds on lengths.
-/
import Derived.Test.YteajjbfecpffeaaAppR
namespace Go.Proofs.Yteajjbfecpffeaa
open Go.RowKit Go.ChangeShapes Go.WideShapes
set_option linter.unusedVariables false
set_option linter.unusedSimpArgs false

section
variable {P : Program} {w w' : World}
/-- the slice that was appended to still owns its row -/
theorem old_row (base : Nat) (t ty e : TypeId) (i : TypeInfo) (z : Value) (size bytes : Nat) (ht : P.underlying t = some (.slice e)) (hi : P.info? e = some i) (hz : i.zero = some z)
    (hsize : i.size = size) (hby : i.bytes = bytes) (v : Value) (n : Nat) (xs : List Value) (hown : w.ownsRow base e size v n xs)
    (a : Addr) (m c : Nat) (news : List Value) (hl : news.length = m * size) (hnews : ∀ j u, news[j]? = some u → w.cell? (a.add j) = some u) (h1 : ∀ u ∈ news, u.oneCell' = true)
    (h63 : n + m ≤ maxLen) (hbytes : (n + m) * bytes ≤ 140737488355328) {v' : Value} (hrun : (Builtin.append_ #[t, t] ty #[v, .slice (some a) m c]).run P w = .ok v' w') : w'.ownsRow base e size v n xs := by
  subst hsize
  subst hby
  refine ⟨hown.1, ?_⟩
  rcases hown.2 with hn | ⟨g, cap, cur, rfl, hbg, hg, hnc, hcm, hcs, htake⟩
  · exact .inl hn
  · by_cases hroom : n + m ≤ cap
    · have hfit : n * i.size + news.length ≤ cur.size := by rw [hl, hcs, ← Nat.add_mul]; exact Nat.mul_le_mul_right _ hroom
      have hr := run_append_room (P := P) w t ty e i ht hi g n cap cur hg a m c news hl hnews h1 hroom hfit
      have hw : w' = w.setRow g (cur.toList.take (n * i.size) ++ news ++ cur.toList.drop (n * i.size + news.length)).toArray := by
        have := hrun.symm.trans hr
        injection this
      subst hw
      refine .inr ⟨g, cap, _, rfl, hbg, setRow_heap w g cur _ e _ hg, hnc, hcm, ?_, ?_⟩
      · simp only [List.size_toArray, List.length_append, List.length_take, List.length_drop, Array.length_toList]
        omega
      · have hx : (List.take (n * i.size) cur.toList).length = n * i.size := by rw [htake]; exact hown.1
        rw [List.append_assoc, List.take_append_of_le_length (by rw [hx]; exact Nat.le_refl _), List.take_of_length_le (by rw [hx]; exact Nat.le_refl _)]
        exact htake
    · have holds : ∀ j u, xs[j]? = some u → w.cell? ((⟨g, 0, none⟩ : Addr).add j) = some u := hown.cells (g := g) rfl
      have hr := run_append_grow (P := P) w t ty e i z ht hi hz ⟨g, 0, none⟩ n cap xs hown.1 holds a m c news hl hnews (by omega) (by simp only [maxLen] at h63; omega) (growslice_fits (by omega) hbytes)
      have hw := hrun.symm.trans hr
      injection hw with _ hw
      subst hw
      refine .inr ⟨g, cap, cur, rfl, hbg, ?_, hnc, hcm, hcs, htake⟩
      have hlt : g < w.drew.heap.size := (Array.getElem?_eq_some_iff.1 hg).1
      exact (Below.heap_alloc w.drew _ g hlt).trans hg
end
section
variable {ops : Array Oper} {rest : List Oper} {o : Oper} {a : Act} {Q : Exit → Act → World → Prop} {w : World} {lo hi : Nat} {v : Value} {rows : List (List Value)}
/-- 'append(l, e)' at an operation: the new slice, and the old one as it was -/
theorem wp_append_ent (hgd : o.guard = none) (s x : Operand)
    (ho : o.op = .call { callee := .builtin .append, args := #[s, x], argTypes := #[24, 24] }) {g cc : Nat} {row : List Value} (hs : a.eval s = v) (hown : OwnR w lo hi 49 5 v rows) (hx : a.eval x = .slice (some ⟨g, 0, none⟩) 1 cc)
    (hb : ∀ i, i < 5 → w.cell? ⟨g, i, none⟩ = row[i]?) (h5 : row.length = 5) (h1 : ∀ u ∈ row, u.oneCell' = true) (hlen : rows.length + 1 ≤ 1073741824) (hlo : lo ≤ w.heap.size)
    (h : ∀ v' w', OwnR w' lo w'.heap.size 49 5 v' (rows ++ [row]) → OwnR w' lo w'.heap.size 49 5 v rows → w.grownBy w' v.ownBlock → Below lo w w' → wpList Try.prog ops Q rest (a.put o.dst v') w') : wpList Try.prog ops Q (o :: rest) a w :=
  wpList_plain hgd fun K hK => by
    obtain ⟨v', w', hrun, h2, h3, h4, h6⟩ := run_append_one o.type (cc := cc) hown hb h5 h1 hlen hlo
    obtain ⟨i0, hi0, hz0, hz1, hz2⟩ := info_parts entInfo
    have hold : OwnR w' lo w'.heap.size 49 5 v rows := by
      have hr := old_row (P := Try.prog) lo _ o.type _ i0 _ 5 72 Try.underlying24 hi0 hz0 hz1 hz2 v _ _ hown.1 ⟨g, 0, none⟩ 1 cc row (by simp [h5]) (fun j u hu => by
        have hadd : (⟨g, 0, none⟩ : Addr).add j = ⟨g, j, none⟩ := by unfold Addr.add; split <;> simp_all
        rw [hadd, hb j (by have := (List.getElem?_eq_some_iff.1 hu).1; omega), hu]) h1 (by simp only [maxLen]; omega) (by omega) hrun
      exact OwnR.of_row hr hown.2.1 (Nat.le_refl _)
    unfold Oper.wp execOp
    simp only [ho, resolve, invoke, builtin, Sem.run_bind, Sem.run_pure, Result.andThen_ok, List.map_toArray, List.map_cons, List.map_nil, hs, hx, hrun]
    exact hK _ _ (h v' w' h2 hold h3 h4)
end
end Go.Proofs.Yteajjbfecpffeaa
