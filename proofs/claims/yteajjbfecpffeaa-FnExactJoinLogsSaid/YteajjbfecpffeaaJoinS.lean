/-
  Contract of JoinLogs in the reference. The conditions are bounds on lengths.
-/
import Derived.Test.YteajjbfecpffeaaAppE
import Derived.Test.YteajjbfecpffeaaPureJ
namespace Go.Proofs.Yteajjbfecpffeaa
open Go.RowKit Go.ChangeShapes Go.WideShapes
set_option linter.unusedVariables false
set_option linter.unusedSimpArgs false

section
variable {ops : Array Oper} {Q : Exit → Act → World → Prop} {o : Oper} {rest : List Oper} {a : Act} {w : World} {lo hi : Nat} {v : Value} {rows : List (List Value)} {es : List Ent} {A : Option Addr} {n c : Nat}
/-- 'append(v, l...)' with the entries that l reads as -/
theorem wp_append_ents (hgd : o.guard = none) (s x : Operand) {l2 h2 : Nat} (ho : o.op = .call { callee := .builtin .append, args := #[s, x], argTypes := #[24, 24] })
    (hs : a.eval s = v) (hown : OwnR w lo hi 49 5 v rows) (hx : a.eval x = .slice A n c) (hn : n = es.length) (hr : RdE w l2 h2 A es)
    (hlen : rows.length + es.length ≤ 1073741824) (hlo : lo ≤ w.heap.size)
    (h : ∀ v' w' rows2, EntRows w l2 h2 es rows2 → OwnR w' lo w'.heap.size 49 5 v' (rows ++ rows2) → w.grownBy w' v.ownBlock → Below lo w w' → wpList Try.prog ops Q rest (a.put o.dst v') w') : wpList Try.prog ops Q (o :: rest) a w := by
  subst hn
  refine wpList_plain hgd fun K hK => ?_
  obtain ⟨v', w', rows2, hrun, h1, h2, h3, h4, h5⟩ := run_append_ents o.type (c := c) hown hr hlen hlo
  unfold Oper.wp execOp
  simp only [ho, resolve, invoke, builtin, Sem.run_bind, Sem.run_pure, Result.andThen_ok, List.map_toArray, List.map_cons, List.map_nil, hs, hx, hrun]
  exact hK _ _ (h v' w' rows2 h1 h2 h3 h4)
end
theorem RdE.drop {w : World} {lo hi b off : Nat} {es : List Ent} (h : RdE w lo hi (some ⟨b, off, none⟩) es) (i : Nat) : RdE w lo hi (some ⟨b, off + i * 5, none⟩) (es.drop i) := fun hp => by
  rw [List.length_drop] at hp
  obtain ⟨b', off', e, h1, h2, h3⟩ := h (by omega)
  injection e with e
  injection e with e1 e2 e3
  subst e1 e2
  refine ⟨b, off + i * 5, rfl, h1, h2, fun j hj => ?_⟩
  rw [List.length_drop] at hj
  have h4 := h3 (i + j) (by omega)
  rw [List.getElem_drop]
  have e : off + i * 5 + j * 5 = off + (i + j) * 5 := by omega
  rw [e]
  exact h4
theorem RdE.drop0 {w : World} {lo hi : Nat} {A : Option Addr} {es : List Ent} (i : Nat) (h : es.length = 0) : RdE w lo hi A (es.drop i) := fun hp => by
  rw [List.length_drop] at hp
  omega

theorem EntRow.below' {w w' : World} {lo hi B : Nat} {e : Ent} {r : List Value} (h : EntRow w lo hi e r) (hb : Below B w w') (hB : hi ≤ B) : EntRow w' lo hi e r := h.keep fun b o _ h2 _ => hb.cell (p := ⟨b, o, none⟩) (by show b < B; omega)
set_option maxRecDepth 100000 in
set_option maxHeartbeats 8000000 in
theorem sJoinLogs_any (es : List Ent) (A : Option Addr) (c : Nat) (fs : List Ent) (B : Option Addr) (d : Nat) {l h l' h' : Nat} (w : World) (hr0 : RdE w l h A es) (hs0 : RdE w l' h' B fs) (hl : eszL es ≤ 1048576) (hl' : eszL fs ≤ 1048576) (hca : es.length ≤ c) (hcb : fs.length ≤ d) :
    Calls Try.prog 7 #[.slice A es.length c, .slice B fs.length d] w fun e w' => ∃ A c, e = .returned (.tuple #[.slice A (jlL es fs).length c, .bool (jlB es fs)]) ∧ RdE w' 0 w'.heap.size A (jlL es fs) ∧ eszL (jlL es fs) ≤ 1048576 ∧ Below w.heap.size w w' := by
  have hr := hr0.std
  have hs := hs0.std
  clear hr0 hs0
  have hsz := Lib.hid (jl_esz (a := es) (b := fs))
  cases q1 : logB es with
  | false =>
    have hq := jlB_a (b := fs) q1
    rw [jlL_no hq, hq]
    clear hq hsz
    go_enter Try.func7, Try.ntmps7
    go_wp2_with fail
    (with_reducible refine (lgGood_u es A c _ hr (by omega) (by have := esz_len es; omega) _ q1).mono ?_)
    rintro e w1 ⟨rfl, hb1⟩
    have hBH := Lib.hid hb1
    clear hb1 hr hs
    go_wp2_with fail
    go_ret2
    exact ⟨none, 0, rfl, RdE.nil, by rw [esz_nil]; omega, hBH.out⟩
  | true =>
    cases q2 : logB fs with
    | false =>
      have hq := jlB_b (a := es) q2
      rw [jlL_no hq, hq]
      clear hq hsz
      go_enter Try.func7, Try.ntmps7
      go_wp2_with fail
      (with_reducible refine (lgGood_u es A c _ hr (by omega) (by have := esz_len es; omega) _ q1).mono ?_)
      rintro e w1 ⟨rfl, hb1⟩
      have hs1 := hs.st hb1
      have hBH := Lib.hid hb1
      clear hb1 hr hs q1
      go_wp2_with fail
      (with_reducible refine (lgGood_u fs B d _ hs1 (by omega) (by have := esz_len fs; omega) _ q2).mono ?_)
      rintro e w2 ⟨rfl, hb2⟩
      have hB2 := Lib.hid (hBH.out.trans (hb2.mono hBH.out.size))
      clear hb2 hs1 q2
      go_wp2_with fail
      go_ret2
      exact ⟨none, 0, rfl, RdE.nil, by rw [esz_nil]; omega, hB2.out⟩
    | true =>
      have hle := log_len q1
      have hlf := log_len q2
      have hze := log_esz q1
      have hzf := log_esz q2
      obtain ⟨v, hv⟩ : ∃ v, logB (jM es fs) = v := ⟨_, rfl⟩
      have hjB := jlB_v q1 q2 hv
      have hjL := jlL_v hjB
      rw [hjB]
      obtain ⟨R, hR⟩ : ∃ R, R = jlL es fs := ⟨_, rfl⟩
      rw [← hR] at hjL hsz ⊢
      have hvH := Lib.hid hv
      have hjH := Lib.hid hjL
      have hme := Lib.hid (jM_esz es fs)
      have hml := Lib.hid (jM_len es fs)
      clear hv hjB hjL hR
      go_enter Try.func7, Try.ntmps7
      go_wp2_with fail
      (with_reducible refine (lgGood_u es A c _ hr (by omega) (by omega) _ q1).mono ?_)
      rintro e w1 ⟨rfl, hb1⟩
      have s1 := hb1.size
      have hr1 := hr.st hb1
      have hs1 := hs.st hb1
      have hB1 := Lib.hid hb1
      clear hb1 hr hs q1
      go_wp2_with fail
      (with_reducible refine (lgGood_u fs B d _ hs1 (by omega) (by omega) _ q2).mono ?_)
      rintro e w2 ⟨rfl, hb2⟩
      have s2 := hb2.size
      have hr2 := hr1.st hb2
      have hs2 := hs1.st hb2
      have hB2 := Lib.hid (hB1.out.trans (hb2.mono s1))
      clear hb2 hr1 hs1 hB1 q2
      go_wp2_with fail
      go_loopw [6, 7, 9, 20] (fun v i _ k wr => ∃ (i' k' : Nat) (out : List Ent) (rows : List (List Value)), i = .int .i64 i' ∧ k = .int .i64 k' ∧ jAt es fs i' k' out ∧ OwnR wr w2.heap.size wr.heap.size 49 5 v rows ∧ EntRows wr 0 w.heap.size out rows ∧ Below w2.heap.size w2 wr) (fun _ _ _ k _ => fs.length - (intOf k).toNat)
      case atStart => exact ⟨0, 0, [], [], rfl, rfl, jAt_start _ _, OwnR.nil, EntRows.nil, Below.refl _ _⟩
      case round =>
        obtain ⟨i, k, out, rows, rfl, rfl, hj, hown, hen, hbr⟩ := hrel
        obtain ⟨wo, hwo⟩ : ∃ wo, wo = wr := ⟨_, rfl⟩
        subst hwo
        have hszr := hbr.size
        have hil := hj.2.1
        have hkl := hj.2.2.1
        obtain ⟨Av, cv, rfl, -⟩ := hown.cells
        by_cases hlt : k < fs.length
        · obtain ⟨bB, oB, rfl, _, hbB, hcB⟩ := (hs2.st hbr) (by omega)
          obtain ⟨A1, c1, A2, c2, x0, x1, x2, x3, x4, r1, r2⟩ := hcB k hlt
          have hrowB : EntRow wo 0 w.heap.size fs[k] [.int .i64 fs[k].time, .int .i64 fs[k].msg, .int .i64 fs[k].part, .slice A1 fs[k].seen.length c1, .slice A2 fs[k].shown.length c2] := ⟨A1, c1, A2, c2, rfl, r1, r2⟩
          have bkE : Bk (wo.alloc (Obj.cells #[.int .i64 fs[k].time, .int .i64 fs[k].msg, .int .i64 fs[k].part, .slice A1 fs[k].seen.length c1, .slice A2 fs[k].shown.length c2] 49 (0, 0))) wo.heap.size 49 #[.int .i64 fs[k].time, .int .i64 fs[k].msg, .int .i64 fs[k].part, .slice A1 fs[k].seen.length c1, .slice A2 fs[k].shown.length c2] := Bk.new wo _ _
          obtain ⟨EB, hEB⟩ : ∃ EB, EB = Obj.cells #[.int .i64 fs[k].time, .int .i64 fs[k].msg, .int .i64 fs[k].part, .slice A1 fs[k].seen.length c1, .slice A2 fs[k].shown.length c2] 49 (0, 0) := ⟨_, rfl⟩
          rw [← hEB] at bkE
          have hO1 := (hown.alloc EB).mono (Nat.le_refl _) (show wo.heap.size ≤ (wo.alloc EB).heap.size by simp)
          have hE1 := hen.keep (w' := wo.alloc EB) (fun b o _ _ h3 => World.cell?_alloc_lt wo _ _ (by exact h3))
          have hR1 := hrowB.keep (w' := wo.alloc EB) (fun b o _ _ h3 => World.cell?_alloc_lt wo _ _ (by exact h3))
          have hB1 := hbr.alloc hszr EB
          have hne1 : (Value.slice Av rows.length cv).ownBlock ≠ some wo.heap.size := fun hh => by have := hown.2.2 _ hh; omega
          have hall := Lib.hid (And.intro hj (And.intro hO1 (And.intro hE1 (And.intro hR1 (And.intro hB1 (And.intro hne1 bkE))))))
          have hszE : (wo.alloc EB).heap.size = wo.heap.size + 1 := by simp
          have hszH := Lib.hid hszE
          clear hj hown hen hrowB hbr hcB r1 r2 hO1 hE1 hR1 hB1 hne1 bkE hszE
          go_wp2_with fail
          rw [← hEB]
          go_loopw [6, 7] (fun v i wi => ∃ (i' : Nat) (out : List Ent) (rows : List (List Value)), i = .int .i64 i' ∧ jAt es fs i' k out ∧ OwnR wi w2.heap.size wi.heap.size 49 5 v rows ∧ EntRows wi 0 w.heap.size out rows ∧ EntRow wi 0 w.heap.size fs[k] [.int .i64 fs[k].time, .int .i64 fs[k].msg, .int .i64 fs[k].part, .slice A1 fs[k].seen.length c1, .slice A2 fs[k].shown.length c2] ∧ v.ownBlock ≠ some wo.heap.size ∧ wo.heap.size < wi.heap.size ∧ Bk wi wo.heap.size 49 #[.int .i64 fs[k].time, .int .i64 fs[k].msg, .int .i64 fs[k].part, .slice A1 fs[k].seen.length c1, .slice A2 fs[k].shown.length c2] ∧ Below w2.heap.size w2 wi) (fun _ i _ => es.length - (intOf i).toNat)
          case atStart => exact ⟨i, out, rows, rfl, hall.out.1, hall.out.2.1, hall.out.2.2.1, hall.out.2.2.2.1, hall.out.2.2.2.2.2.1, by have := hszH.out; omega, hall.out.2.2.2.2.2.2, hall.out.2.2.2.2.1⟩
          case round =>
            clear hall hszH hil hkl hszr x0 x1 x2 x3 x4
            obtain ⟨i, out, rows, rfl, hj, hown, hen, hrowB, hne, hgs, bkE, hbr⟩ := hrel
            have hszr := hbr.size
            have hil := hj.2.1
            have hol := hj.2.2.2.1
            have hrb : rows.length ≤ 60 := by have := hen.1; omega
            clear hol
            obtain ⟨Av, cv, rfl, -⟩ := hown.cells
            have e0 := bkE.cell 0
            have e1 := bkE.cell 1
            have e2 := bkE.cell 2
            have e3 := bkE.cell 3
            have e4 := bkE.cell 4
            simp at e0 e1 e2 e3 e4
            by_cases hlt2 : i < es.length
            · obtain ⟨bA, oA, rfl, _, hbA, hcA⟩ := (hr2.st hbr) (by omega)
              obtain ⟨A3, c3, A4, c4, y0, y1, y2, y3, y4, r3, r4⟩ := hcA i hlt2
              by_cases ht : es[i].time ≤ fs[k].time
              · have hrowA : EntRow wr 0 w.heap.size es[i] [.int .i64 es[i].time, .int .i64 es[i].msg, .int .i64 es[i].part, .slice A3 es[i].seen.length c3, .slice A4 es[i].shown.length c4] := ⟨A3, c3, A4, c4, rfl, r3, r4⟩
                have hjn := Lib.hid (jAt_a hj hlt2 hlt ht)
                have hj := Lib.hid hj
                have hgd : decide ((i : Int) < (es.length : Int)) = true := by simpa using hlt2
                have hle2 : decide (es[i].time ≤ fs[k].time) = true := by simpa using ht
                have hown := Lib.hid hown
                have hen := Lib.hid hen
                have hrowA := Lib.hid hrowA
                have hrowB := Lib.hid hrowB
                have hneH := Lib.hid hne
                have bkE := Lib.hid bkE
                have hbr := Lib.hid hbr
                clear hcA r3 r4 hne
                go_wp2_with fail
                go_quiet (fail)
                have hcH : Hid (∀ j (hj : j < [([.int .i64 es[i].time, .int .i64 es[i].msg, .int .i64 es[i].part, .slice A3 es[i].seen.length c3, .slice A4 es[i].shown.length c4] : List Value)].length) u, u < 5 → ((wr.drewN nq).alloc (Obj.cells #[.int .i64 es[i].time, .int .i64 es[i].msg, .int .i64 es[i].part, .slice A3 es[i].seen.length c3, .slice A4 es[i].shown.length c4] 49 (0, 0))).cell? ⟨wr.heap.size, j * 5 + u, none⟩ = ([([.int .i64 es[i].time, .int .i64 es[i].msg, .int .i64 es[i].part, .slice A3 es[i].seen.length c3, .slice A4 es[i].shown.length c4] : List Value)][j])[u]?) := Lib.hid fun j hj u hu => by
                  obtain rfl : j = 0 := by simpa using hj
                  rw [Nat.zero_mul, Nat.zero_add, (show Bk ((wr.drewN nq).alloc (Obj.cells #[.int .i64 es[i].time, .int .i64 es[i].msg, .int .i64 es[i].part, .slice A3 es[i].seen.length c3, .slice A4 es[i].shown.length c4] 49 (0, 0))) wr.heap.size 49 #[.int .i64 es[i].time, .int .i64 es[i].msg, .int .i64 es[i].part, .slice A3 es[i].seen.length c3, .slice A4 es[i].shown.length c4] from Bk.new (wr.drewN nq) _ _).cell u]
                  simp
                have hOH := Lib.hid ((show OwnR (wr.drewN nq) w2.heap.size wr.heap.size 49 5 _ rows from hown.out).alloc (Obj.cells #[.int .i64 es[i].time, .int .i64 es[i].msg, .int .i64 es[i].part, .slice A3 es[i].seen.length c3, .slice A4 es[i].shown.length c4] 49 (0, 0)))
                have hEH := Lib.hid ((show EntRows (wr.drewN nq) 0 w.heap.size out rows from hen.out).keep (w' := (wr.drewN nq).alloc (Obj.cells #[.int .i64 es[i].time, .int .i64 es[i].msg, .int .i64 es[i].part, .slice A3 es[i].seen.length c3, .slice A4 es[i].shown.length c4] 49 (0, 0))) (fun b o _ _ h3 => World.cell?_alloc_lt _ _ _ (by exact h3)))
                have hRA := Lib.hid ((show EntRow (wr.drewN nq) 0 w.heap.size es[i] [.int .i64 es[i].time, .int .i64 es[i].msg, .int .i64 es[i].part, .slice A3 es[i].seen.length c3, .slice A4 es[i].shown.length c4] from hrowA.out).keep (w' := (wr.drewN nq).alloc (Obj.cells #[.int .i64 es[i].time, .int .i64 es[i].msg, .int .i64 es[i].part, .slice A3 es[i].seen.length c3, .slice A4 es[i].shown.length c4] 49 (0, 0))) (fun b o _ _ h3 => World.cell?_alloc_lt _ _ _ (by exact h3)))
                have hRB := Lib.hid ((show EntRow (wr.drewN nq) 0 w.heap.size fs[k] [.int .i64 fs[k].time, .int .i64 fs[k].msg, .int .i64 fs[k].part, .slice A1 fs[k].seen.length c1, .slice A2 fs[k].shown.length c2] from hrowB.out).keep (w' := (wr.drewN nq).alloc (Obj.cells #[.int .i64 es[i].time, .int .i64 es[i].msg, .int .i64 es[i].part, .slice A3 es[i].seen.length c3, .slice A4 es[i].shown.length c4] 49 (0, 0))) (fun b o _ _ h3 => World.cell?_alloc_lt _ _ _ (by exact h3)))
                have hKE := Lib.hid ((show Bk (wr.drewN nq) wo.heap.size 49 #[.int .i64 fs[k].time, .int .i64 fs[k].msg, .int .i64 fs[k].part, .slice A1 fs[k].seen.length c1, .slice A2 fs[k].shown.length c2] from bkE.out).alloc (Obj.cells #[.int .i64 es[i].time, .int .i64 es[i].msg, .int .i64 es[i].part, .slice A3 es[i].seen.length c3, .slice A4 es[i].shown.length c4] 49 (0, 0)))
                have hBH := Lib.hid ((below_drewN hbr.out nq).alloc (show w2.heap.size ≤ (wr.drewN nq).heap.size from hszr) (Obj.cells #[.int .i64 es[i].time, .int .i64 es[i].msg, .int .i64 es[i].part, .slice A3 es[i].seen.length c3, .slice A4 es[i].shown.length c4] 49 (0, 0)))
                have hsN := Lib.hid (show ((wr.drewN nq).alloc (Obj.cells #[.int .i64 es[i].time, .int .i64 es[i].msg, .int .i64 es[i].part, .slice A3 es[i].seen.length c3, .slice A4 es[i].shown.length c4] 49 (0, 0))).heap.size = wr.heap.size + 1 by simp)
                clear hown hen hrowA hrowB bkE hbr
                go_wp2_with (at_builtin; refine wp_append_rows rfl (.tmp 38) (.tmp 43) rfl Try.underlying24 entInfo rfl (by omega) rfl hOH.out (news := [[.int .i64 es[i].time, .int .i64 es[i].msg, .int .i64 es[i].part, .slice A3 es[i].seen.length c3, .slice A4 es[i].shown.length c4]]) (by rfl) hcH.out (by simp) (by simp [Value.oneCell']) (by simp; omega) (by omega) (by have := hsN.out; omega) ?_; intro v5 w5 ho5 hg5 hb5 hat5)
                have hs5 := hb5.size
                have hE5 := Lib.hid ((hEH.out.below hb5 (by omega)).snoc (hRA.out.below' hb5 (by omega)))
                have hR5 := Lib.hid (hRB.out.below' hb5 (by omega))
                have hK5 := Lib.hid (hKE.out.keep (hg5.block _ (by have := hsN.out; omega) (fun hh => hneH.out hh.symm)))
                have hB5 := Lib.hid (hBH.out.trans hb5)
                have hn5 : Hid (v5.ownBlock ≠ some wo.heap.size) := Lib.hid (by
                  rcases hat5 with hat | hat
                  · rw [hat]; exact hneH.out
                  · rw [hat]; intro hh; injection hh with hh; have := hsN.out; omega)
                have hO5 := Lib.hid ho5
                have hs6 := Lib.hid (show wo.heap.size < w5.heap.size by have := hsN.out; omega)
                clear ho5 hg5 hb5 hat5 hOH hEH hRA hRB hKE hBH hneH hcH hsN hs5
                go_wp2_with fail
                go_roundw
                case rel => exact ⟨i + 1, _, _, by go_num, hjn.out, hO5.out, hE5.out, hR5.out, hn5.out, hs6.out, hK5.out, hB5.out⟩
                case measure => simp [intOf]; omega
              · have hjn := Lib.hid (jAt_b hj hlt (fun _ => ht))
                have hgd : decide ((i : Int) < (es.length : Int)) = true := by simpa using hlt2
                have hle2 : decide (es[i].time ≤ fs[k].time) = false := by simpa using ht
                clear hcA r3 r4
                have hj := Lib.hid hj
                have hown := Lib.hid hown
                have hen := Lib.hid hen
                have hrowB := Lib.hid hrowB
                have hbr := Lib.hid hbr
                clear hne bkE
                go_wp2_with fail
                go_quiet (fail)
                have hcH : Hid (∀ j (hj : j < [([.int .i64 fs[k].time, .int .i64 fs[k].msg, .int .i64 fs[k].part, .slice A1 fs[k].seen.length c1, .slice A2 fs[k].shown.length c2] : List Value)].length) u, u < 5 → ((wr.drewN nq).alloc (Obj.cells #[.int .i64 fs[k].time, .int .i64 fs[k].msg, .int .i64 fs[k].part, .slice A1 fs[k].seen.length c1, .slice A2 fs[k].shown.length c2] 49 (0, 0))).cell? ⟨wr.heap.size, j * 5 + u, none⟩ = ([([.int .i64 fs[k].time, .int .i64 fs[k].msg, .int .i64 fs[k].part, .slice A1 fs[k].seen.length c1, .slice A2 fs[k].shown.length c2] : List Value)][j])[u]?) := Lib.hid fun j hj u hu => by
                  obtain rfl : j = 0 := by simpa using hj
                  rw [Nat.zero_mul, Nat.zero_add, (show Bk ((wr.drewN nq).alloc (Obj.cells #[.int .i64 fs[k].time, .int .i64 fs[k].msg, .int .i64 fs[k].part, .slice A1 fs[k].seen.length c1, .slice A2 fs[k].shown.length c2] 49 (0, 0))) wr.heap.size 49 #[.int .i64 fs[k].time, .int .i64 fs[k].msg, .int .i64 fs[k].part, .slice A1 fs[k].seen.length c1, .slice A2 fs[k].shown.length c2] from Bk.new (wr.drewN nq) _ _).cell u]
                  simp
                have hOH := Lib.hid ((show OwnR (wr.drewN nq) w2.heap.size wr.heap.size 49 5 _ rows from hown.out).alloc (Obj.cells #[.int .i64 fs[k].time, .int .i64 fs[k].msg, .int .i64 fs[k].part, .slice A1 fs[k].seen.length c1, .slice A2 fs[k].shown.length c2] 49 (0, 0)))
                have hEH := Lib.hid ((show EntRows (wr.drewN nq) 0 w.heap.size out rows from hen.out).keep (w' := (wr.drewN nq).alloc (Obj.cells #[.int .i64 fs[k].time, .int .i64 fs[k].msg, .int .i64 fs[k].part, .slice A1 fs[k].seen.length c1, .slice A2 fs[k].shown.length c2] 49 (0, 0))) (fun b o _ _ h3 => World.cell?_alloc_lt _ _ _ (by exact h3)))
                have hRB := Lib.hid ((show EntRow (wr.drewN nq) 0 w.heap.size fs[k] [.int .i64 fs[k].time, .int .i64 fs[k].msg, .int .i64 fs[k].part, .slice A1 fs[k].seen.length c1, .slice A2 fs[k].shown.length c2] from hrowB.out).keep (w' := (wr.drewN nq).alloc (Obj.cells #[.int .i64 fs[k].time, .int .i64 fs[k].msg, .int .i64 fs[k].part, .slice A1 fs[k].seen.length c1, .slice A2 fs[k].shown.length c2] 49 (0, 0))) (fun b o _ _ h3 => World.cell?_alloc_lt _ _ _ (by exact h3)))
                have hBH := Lib.hid ((below_drewN hbr.out nq).alloc (show w2.heap.size ≤ (wr.drewN nq).heap.size from hszr) (Obj.cells #[.int .i64 fs[k].time, .int .i64 fs[k].msg, .int .i64 fs[k].part, .slice A1 fs[k].seen.length c1, .slice A2 fs[k].shown.length c2] 49 (0, 0)))
                have hsN := Lib.hid (show ((wr.drewN nq).alloc (Obj.cells #[.int .i64 fs[k].time, .int .i64 fs[k].msg, .int .i64 fs[k].part, .slice A1 fs[k].seen.length c1, .slice A2 fs[k].shown.length c2] 49 (0, 0))).heap.size = wr.heap.size + 1 by simp)
                clear hown hen hrowB hbr
                go_wp2_with (at_builtin; refine wp_append_rows rfl (.tmp 47) (.tmp 49) rfl Try.underlying24 entInfo rfl (by omega) rfl hOH.out (news := [[.int .i64 fs[k].time, .int .i64 fs[k].msg, .int .i64 fs[k].part, .slice A1 fs[k].seen.length c1, .slice A2 fs[k].shown.length c2]]) (by rfl) hcH.out (by simp) (by simp [Value.oneCell']) (by simp; omega) (by omega) (by have := hsN.out; omega) ?_; intro v5 w5 ho5 hg5 hb5 hat5)
                have hE5 := Lib.hid ((hEH.out.below hb5 (by omega)).snoc (hRB.out.below' hb5 (by omega)))
                have hB5 := Lib.hid (hBH.out.trans hb5)
                have hO5 := Lib.hid ho5
                clear ho5 hg5 hb5 hat5 hOH hEH hRB hBH hcH hsN
                go_wp2_with fail
                go_roundw
                case rel => exact ⟨i, k + 1, _, _, rfl, by go_num, hjn.out, hO5.out, hE5.out, hB5.out⟩
                case measure => simp [intOf]; omega
            · have hjn := Lib.hid (jAt_b hj hlt (fun hh => absurd hh hlt2))
              have hgd : decide ((i : Int) < (es.length : Int)) = false := by simpa using hlt2
              have hj := Lib.hid hj
              have hown := Lib.hid hown
              have hen := Lib.hid hen
              have hrowB := Lib.hid hrowB
              have hbr := Lib.hid hbr
              clear hne bkE
              go_wp2_with fail
              go_quiet (fail)
              have hcH : Hid (∀ j (hj : j < [([.int .i64 fs[k].time, .int .i64 fs[k].msg, .int .i64 fs[k].part, .slice A1 fs[k].seen.length c1, .slice A2 fs[k].shown.length c2] : List Value)].length) u, u < 5 → ((wr.drewN nq).alloc (Obj.cells #[.int .i64 fs[k].time, .int .i64 fs[k].msg, .int .i64 fs[k].part, .slice A1 fs[k].seen.length c1, .slice A2 fs[k].shown.length c2] 49 (0, 0))).cell? ⟨wr.heap.size, j * 5 + u, none⟩ = ([([.int .i64 fs[k].time, .int .i64 fs[k].msg, .int .i64 fs[k].part, .slice A1 fs[k].seen.length c1, .slice A2 fs[k].shown.length c2] : List Value)][j])[u]?) := Lib.hid fun j hj u hu => by
                obtain rfl : j = 0 := by simpa using hj
                rw [Nat.zero_mul, Nat.zero_add, (show Bk ((wr.drewN nq).alloc (Obj.cells #[.int .i64 fs[k].time, .int .i64 fs[k].msg, .int .i64 fs[k].part, .slice A1 fs[k].seen.length c1, .slice A2 fs[k].shown.length c2] 49 (0, 0))) wr.heap.size 49 #[.int .i64 fs[k].time, .int .i64 fs[k].msg, .int .i64 fs[k].part, .slice A1 fs[k].seen.length c1, .slice A2 fs[k].shown.length c2] from Bk.new (wr.drewN nq) _ _).cell u]
                simp
              have hOH := Lib.hid ((show OwnR (wr.drewN nq) w2.heap.size wr.heap.size 49 5 _ rows from hown.out).alloc (Obj.cells #[.int .i64 fs[k].time, .int .i64 fs[k].msg, .int .i64 fs[k].part, .slice A1 fs[k].seen.length c1, .slice A2 fs[k].shown.length c2] 49 (0, 0)))
              have hEH := Lib.hid ((show EntRows (wr.drewN nq) 0 w.heap.size out rows from hen.out).keep (w' := (wr.drewN nq).alloc (Obj.cells #[.int .i64 fs[k].time, .int .i64 fs[k].msg, .int .i64 fs[k].part, .slice A1 fs[k].seen.length c1, .slice A2 fs[k].shown.length c2] 49 (0, 0))) (fun b o _ _ h3 => World.cell?_alloc_lt _ _ _ (by exact h3)))
              have hRB := Lib.hid ((show EntRow (wr.drewN nq) 0 w.heap.size fs[k] [.int .i64 fs[k].time, .int .i64 fs[k].msg, .int .i64 fs[k].part, .slice A1 fs[k].seen.length c1, .slice A2 fs[k].shown.length c2] from hrowB.out).keep (w' := (wr.drewN nq).alloc (Obj.cells #[.int .i64 fs[k].time, .int .i64 fs[k].msg, .int .i64 fs[k].part, .slice A1 fs[k].seen.length c1, .slice A2 fs[k].shown.length c2] 49 (0, 0))) (fun b o _ _ h3 => World.cell?_alloc_lt _ _ _ (by exact h3)))
              have hBH := Lib.hid ((below_drewN hbr.out nq).alloc (show w2.heap.size ≤ (wr.drewN nq).heap.size from hszr) (Obj.cells #[.int .i64 fs[k].time, .int .i64 fs[k].msg, .int .i64 fs[k].part, .slice A1 fs[k].seen.length c1, .slice A2 fs[k].shown.length c2] 49 (0, 0)))
              have hsN := Lib.hid (show ((wr.drewN nq).alloc (Obj.cells #[.int .i64 fs[k].time, .int .i64 fs[k].msg, .int .i64 fs[k].part, .slice A1 fs[k].seen.length c1, .slice A2 fs[k].shown.length c2] 49 (0, 0))).heap.size = wr.heap.size + 1 by simp)
              clear hown hen hrowB hbr
              go_wp2_with (at_builtin; refine wp_append_rows rfl (.tmp 47) (.tmp 49) rfl Try.underlying24 entInfo rfl (by omega) rfl hOH.out (news := [[.int .i64 fs[k].time, .int .i64 fs[k].msg, .int .i64 fs[k].part, .slice A1 fs[k].seen.length c1, .slice A2 fs[k].shown.length c2]]) (by rfl) hcH.out (by simp) (by simp [Value.oneCell']) (by simp; omega) (by omega) (by have := hsN.out; omega) ?_; intro v5 w5 ho5 hg5 hb5 hat5)
              have hE5 := Lib.hid ((hEH.out.below hb5 (by omega)).snoc (hRB.out.below' hb5 (by omega)))
              have hB5 := Lib.hid (hBH.out.trans hb5)
              have hO5 := Lib.hid ho5
              clear ho5 hg5 hb5 hat5 hOH hEH hRB hBH hcH hsN
              go_wp2_with fail
              go_roundw
              case rel => exact ⟨i, k + 1, _, _, rfl, by go_num, hjn.out, hO5.out, hE5.out, hB5.out⟩
              case measure => simp [intOf]; omega
        · obtain rfl : k = fs.length := by omega
          have hje := Lib.hid (jAt_end hj)
          have hol := hj.2.2.2.1
          have hrl := hen.1
          have hOH := Lib.hid hown
          have hEH := Lib.hid hen
          have hBH := Lib.hid hbr
          have hr3 := Lib.hid (hr2.st hbr)
          clear hj hown hen hbr hr2 hs2
          by_cases h0 : es.length = 0
          · cases A with
            | none =>
              go_wp2_with (at_builtin; refine wp_append_ents rfl (.tmp 52) (.tmp 55) rfl rfl hOH.out (es := es.drop i) (by rfl) (by first | exact List.length_drop.symm | (rw [List.length_drop]; omega)) (RdE.drop0 (w := wo) (lo := 0) (hi := w.heap.size) (A := none) i h0) (by rw [List.length_drop]; omega) (by omega) ?_; intro v5 w5 rows5 hr5 ho5 hg5 hb5)
              have hE5 := (hEH.out.below hb5 (by omega)).append (hr5.below hb5 (by omega))
              rw [hje.out] at hE5
              obtain ⟨A5, c5, rfl, -⟩ := ho5.cells
              have hrd := Lib.hid (ho5.rdE hE5)
              have hB5 := Lib.hid (hB2.out.trans ((hBH.out.trans hb5).mono (by omega)))
              have hs5 := hB5.out.size
              clear hE5 ho5 hr5 hg5 hb5 hOH hEH hBH hr3 hje hB2
              go_wp2_with fail
              (with_reducible refine (lgIf_v (jM es fs) A5 _ c5 _ hrd.out.1 hrd.out.2.1 (by have := hme.out; omega) (by have := hml.out; omega) v hvH.out R hjH.out).mono ?_)
              rintro e w6 ⟨A6, c6, rfl, o6, hb6⟩
              have hRd := Lib.hid (o6.rd'.std)
              have hB6 := Lib.hid (hB5.out.trans (hb6.mono hs5))
              clear o6 hb6 hB5 hrd
              go_wp2_with fail
              go_ret2
              exact ⟨A6, c6, rfl, hRd.out, hsz.out, hB6.out⟩
            | some ad =>
              go_wp2_with (at_builtin; refine wp_append_ents rfl (.tmp 52) (.tmp 55) rfl rfl hOH.out (es := es.drop i) (by rfl) (by first | exact List.length_drop.symm | (rw [List.length_drop]; omega)) (RdE.drop0 (w := wo) (lo := 0) (hi := w.heap.size) (A := if c = i then some ad else some (ad.add (i * 5))) i h0) (by rw [List.length_drop]; omega) (by omega) ?_; intro v5 w5 rows5 hr5 ho5 hg5 hb5)
              all_goals
                have hE5 := (hEH.out.below hb5 (by omega)).append (hr5.below hb5 (by omega))
                rw [hje.out] at hE5
                obtain ⟨A5, c5, rfl, -⟩ := ho5.cells
                have hrd := Lib.hid (ho5.rdE hE5)
                have hB5 := Lib.hid (hB2.out.trans ((hBH.out.trans hb5).mono (by omega)))
                have hs5 := hB5.out.size
                clear hE5 ho5 hr5 hg5 hb5 hOH hEH hBH hr3 hje hB2
                go_wp2_with fail
                (with_reducible refine (lgIf_v (jM es fs) A5 _ c5 _ hrd.out.1 hrd.out.2.1 (by have := hme.out; omega) (by have := hml.out; omega) v hvH.out R hjH.out).mono ?_)
                rintro e w6 ⟨A6, c6, rfl, o6, hb6⟩
                have hRd := Lib.hid (o6.rd'.std)
                have hB6 := Lib.hid (hB5.out.trans (hb6.mono hs5))
                clear o6 hb6 hB5 hrd
                go_wp2_with fail
                go_ret2
                exact ⟨A6, c6, rfl, hRd.out, hsz.out, hB6.out⟩
          · obtain ⟨bA, oA, rfl, -⟩ := hr3.out (by omega)
            have hr4 : Hid (RdE wo 0 w.heap.size (if c = i then some ⟨bA, oA, none⟩ else some ⟨bA, oA + i * 5, none⟩) (es.drop i)) := Lib.hid (by
              split
              · exact fun hp => absurd hp (by rw [List.length_drop]; omega)
              · exact hr3.out.drop i)
            go_wp2_with (at_builtin; refine wp_append_ents rfl (.tmp 52) (.tmp 55) rfl rfl hOH.out (es := es.drop i) (by rfl) (by first | exact List.length_drop.symm | (rw [List.length_drop]; omega)) (hr4.out) (by rw [List.length_drop]; omega) (by omega) ?_; intro v5 w5 rows5 hr5 ho5 hg5 hb5)
            all_goals
              have hE5 := (hEH.out.below hb5 (by omega)).append (hr5.below hb5 (by omega))
              rw [hje.out] at hE5
              obtain ⟨A5, c5, rfl, -⟩ := ho5.cells
              have hrd := Lib.hid (ho5.rdE hE5)
              have hB5 := Lib.hid (hB2.out.trans ((hBH.out.trans hb5).mono (by omega)))
              have hs5 := hB5.out.size
              clear hE5 ho5 hr5 hg5 hb5 hOH hEH hBH hr3 hje hB2
              go_wp2_with fail
              (with_reducible refine (lgIf_v (jM es fs) A5 _ c5 _ hrd.out.1 hrd.out.2.1 (by have := hme.out; omega) (by have := hml.out; omega) v hvH.out R hjH.out).mono ?_)
              rintro e w6 ⟨A6, c6, rfl, o6, hb6⟩
              have hRd := Lib.hid (o6.rd'.std)
              have hB6 := Lib.hid (hB5.out.trans (hb6.mono hs5))
              clear o6 hb6 hB5 hrd
              go_wp2_with fail
              go_ret2
              exact ⟨A6, c6, rfl, hRd.out, hsz.out, hB6.out⟩
end Go.Proofs.Yteajjbfecpffeaa
