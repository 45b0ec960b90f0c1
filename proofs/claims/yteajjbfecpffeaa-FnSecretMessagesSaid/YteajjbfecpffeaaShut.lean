/-
  The last step of each statement of this claim: a call that returned true and left all that was there alone answers as the statement says. No conditions of its own.
-/
import Derived.Test.YteajjbfecpffeaaRows
import Derived.Test.YteajjbfecpffeaaMem
import Derived.Test.YteajjbfecpffeaaMemE
import Derived.ChangeSame
import Derived.ProofKit
import Derived.Deep.Slices
import Derived.Lib.SmallJoins
namespace Go.Proofs.Yteajjbfecpffeaa
open Go.RowKit Go.WideShapes Go.ChangeShapes Go.ChangeAt
set_option linter.unusedVariables false
set_option maxRecDepth 100000

section
variable {H : Type} {enc : TypeId × Value → H} {P : Program}

theorem trodAll_stays (hl : laidOutB P = true) {W W' : World} (hb : Below W.heap.size W W') {sp : Nat → Bool} :
    ∀ {ts : List TypeId} {vs : List Value} {ds : List (DataW H)} {ps : List MemPlace}, (∀ t ∈ ts, P.readableRec t = true ∧ t < P.types.size) →
      DataW.TrodAll enc P W 0 (fun _ => true) true ts vs ds ps → (∀ p ∈ ps, p.block < W.heap.size) → (∀ p ∈ ps, sp p.block = true) → DataW.TrodAll enc P W' 0 sp true ts vs ds ps
  | [], _, _, _, _, h, _, _ => by
    obtain ⟨rfl, rfl, rfl⟩ := trodAll_nil h
    exact trodAll_mk0
  | t :: ts, _, _, _, hr, h, hlt, hsp => by
    obtain ⟨v, vs1, d, ds1, a, b, rfl, rfl, rfl, h1, h2⟩ := trodAll_cons h
    refine trodAll_cons_mk ?_ (trodAll_stays hl hb (fun t' ht' => hr t' (List.mem_cons_of_mem _ ht')) h2 (fun p hp => hlt p (List.mem_append_right _ hp)) (fun p hp => hsp p (List.mem_append_right _ hp)))
    exact WideElems.Trod_stays hl (hr t List.mem_cons_self).1 (hr t List.mem_cons_self).2 h1 (fun p hp => hb.same (hlt p (List.mem_append_left _ hp))) (fun p hp => hsp p (List.mem_append_left _ hp))

theorem post_true {f : Func} {s : ChangeSpec} {apart fresh handsOn again : Bool} {W W' : World} {args : Array Value} {ds gs : List (DataW H)} {before : List MemPlace} {tb : TypeId}
    (hl : laidOutB P = true) (hrec : ∀ t ∈ f.params.toList, P.readableRec t = true ∧ t < P.types.size)
    (hW : DataW.Whole enc P f.params.toList s.vars apart W args.toList ds gs before) (hsv : s.vars = [])
    (hres : (s.fn H (ds ++ gs)).results = [.lit (.bool true)]) (harg : (s.fn H (ds ++ gs)).args = ds) (hvs : (s.fn H (ds ++ gs)).vars = [])
    (hrt : f.resultTypes = #[tb]) (hb : P.underlying tb = some .bool) (hbel : Below W.heap.size W W') : s.post enc P f apart fresh handsOn again W args (.bool true) W' := by
  have hlt : ∀ p ∈ before, p.block < W.heap.size := fun p hp => hW.lt p hp
  have hW0 := hW
  obtain ⟨p, q, hA, hV, hpq, hz, hn⟩ := hW
  rw [hsv] at hV
  obtain ⟨hg, hq⟩ := trodVars_none hV
  subst hq
  rw [List.append_nil] at hpq
  subst hpq
  have hargs : ∀ sp : Nat → Bool, (∀ x ∈ before, sp x.block = true) → DataW.TrodAll enc P W' 0 sp true f.params.toList args.toList (s.fn H (ds ++ gs)).args before := fun sp hsp => by
    rw [harg]; exact trodAll_stays hl hbel hrec hA hlt hsp
  have hvars : ∀ sp : Nat → Bool, DataW.TrodVars enc P W' sp s.vars (s.fn H (ds ++ gs)).vars [] := fun sp => by rw [hsv, hvs]; rfl
  have hrs : ∀ (b : Nat) (sp : Nat → Bool) (hd : Bool), DataW.TrodAll enc P W' b sp hd f.resultTypes.toList ((Value.bool true).resultList f.resultTypes.size) (s.fn H (ds ++ gs)).results [] := fun b sp hd => by
    rw [hres, hrt]; exact trodAll_mk1 (shut_bool hb _)
  have hold : ∀ x ∈ before, (fun b => decide (b < W.heap.size)) x.block = true := fun x hx => by simpa using hlt x hx
  refine ⟨ds, gs, before, [], before, [], hW0, hrs _ _ _, hargs _ hold, hvars _, World.keptBut_mono (fun x hx => ⟨hx, ?_⟩) (hbel.frame (· ∈ before)), fun _ => ?_⟩
  · simpa using hx
  · refine ⟨ok_one hrt rfl (okWide_bool_mk hb _), _, _, ([] ++ before) ++ [], ⟨[] ++ before, [], trodAll_append (hargs _ (fun _ _ => rfl)) (hrs _ _ _), hvars _, rfl, ?_, ?_⟩, ?_⟩
    · intro b off hp
      have hin : MemPlace.cell b off ∈ before := by simpa using hp
      rw [hbel.frozen (hlt _ hin)]
      exact hz b off hin
    · intro ha
      simpa using hn ha
    · intro x hx _
      simpa using hx
end

theorem ownGo : ownKnob Try.prog.godebug = none := by kernel_rfl
theorem laidOut : laidOutB Try.prog = true := by kernel_rfl
theorem cellsInt : Try.prog.cellsOf 3 = 1 := by kernel_rfl

/-- an argument that is a slice of integers -/
theorem argInts {H : Type} {enc : TypeId × Value → H} {W : World} {r : Reach} {base : Nat} {v : Value} {d : DataW H} {p : List MemPlace} (hv : Value.okWide Try.prog W r base 35 v)
    (h : DataW.Trod enc Try.prog W 0 (fun _ => true) true 35 v d p) (hlt : ∀ x ∈ p, x.block < W.heap.size) :
    ∃ zs A c, v = .slice A (zs : List Int).length c ∧ Rd W 0 W.heap.size A zs ∧ zs.length ≤ 9223372036854775807 := by
  obtain ⟨a0, len, cap, rfl⟩ := okWide_slice Try.underlying35 hv
  obtain ⟨fuel, hf⟩ := h
  rcases open_ints Try.underlying35 Try.underlying3 cellsInt hf with ⟨hcs, hx⟩ | ⟨a, len', cap', zs, hcs, _, hl, hm, hz, hx, hcell, hwz⟩
  · simp only [Value.cells, List.cons.injEq, Value.slice.injEq, and_true] at hcs
    obtain ⟨rfl, rfl, rfl⟩ := hcs
    exact ⟨[], none, 0, rfl, Rd.nil, by simp⟩
  · simp only [Value.cells, List.cons.injEq, Value.slice.injEq, and_true] at hcs
    obtain ⟨rfl, rfl, rfl⟩ := hcs
    simp only [if_true] at hz
    have hlen : (zs.take len).length = len := by simp; omega
    refine ⟨zs.take len, some a, cap, by rw [hlen], fun hp => ?_, by rw [hlen]; unfold maxLen at hm; omega⟩
    rw [hlen] at hp
    obtain ⟨b, off, rfl, hc⟩ := ints_at hcell (by omega)
    have hcell0 := hc 0 (by omega)
    refine ⟨b, off, rfl, Nat.zero_le _, World.block_lt_of_cell? W _ hcell0, fun j hj => ?_⟩
    rw [hlen] at hj
    have := hc j (by omega)
    rw [this]
    simp [show j < zs.length by omega]

theorem trodInts {H : Type} {enc : TypeId × Value → H} {W : World} {fuel : Nat} {v : Value} {x : DataW H × List MemPlace} (hf : DataW.trod enc Try.prog W 0 (fun _ => true) true fuel 35 [v] = some x) (hlt : ∀ y ∈ x.2, y.block < W.heap.size) :
    ∃ A c zs, v = .slice A (zs : List Int).length c ∧ Rd W 0 W.heap.size A zs ∧ zs.length ≤ 9223372036854775807 := by
  rcases open_ints Try.underlying35 Try.underlying3 cellsInt hf with ⟨hcs, hx⟩ | ⟨a, len, cap, zs, hcs, _, hl, hm, hz, hx, hcell, hwz⟩
  · simp only [List.cons.injEq, and_true] at hcs
    subst hcs
    exact ⟨none, 0, [], rfl, Rd.nil, by simp⟩
  · simp only [List.cons.injEq, and_true] at hcs
    subst hcs
    simp only [if_true] at hz
    have hlen : (zs.take len).length = len := by simp; omega
    refine ⟨some a, cap, zs.take len, by rw [hlen], fun hp => ?_, ?_⟩
    · rw [hlen] at hp
      obtain ⟨b, off, rfl, hc⟩ := ints_at hcell (by omega)
      have hcell0 := hc 0 (by omega)
      refine ⟨b, off, rfl, Nat.zero_le _, World.block_lt_of_cell? W _ hcell0, fun j hj => ?_⟩
      rw [hlen] at hj
      have := hc j (by omega)
      rw [this]
      simp [show j < zs.length by omega]
    · rw [hlen]; unfold maxLen at hm; omega

theorem argInt {H : Type} {enc : TypeId × Value → H} {W : World} {r : Reach} {base : Nat} {v : Value} {d : DataW H} {p : List MemPlace} (hv : Value.okWide Try.prog W r base 3 v)
    (h : DataW.Trod enc Try.prog W 0 (fun _ => true) true 3 v d p) (hlt : ∀ x ∈ p, x.block < W.heap.size) : ∃ n, v = .int .i64 n := okWide_int Try.underlying3 hv

open Go.Joins Go.Deep in
theorem open_agg5 {H : Type} {enc : TypeId × Value → H} {P : Program} {w : World} {base : Nat} {spare : Nat → Bool} {held : Bool} {r : Reach} {b0 : Nat} {t : TypeId} {f0 f1 f2 f3 f4 : Field} {v : Value} {d : DataW H} {p : List MemPlace} (hs : P.underlying t = some (.struct #[f0, f1, f2, f3, f4])) (hone : oneCellFields P #[f0, f1, f2, f3, f4] = true) (hC : P.cellsOf t = 5)
    (hv : Value.okWide P w r b0 t v) (h : DataW.Trod enc P w base spare held t v d p) :
    ∃ (v0 v1 v2 v3 v4 : Value) (y0 y1 y2 y3 y4 : DataW H × List MemPlace) (n : Nat), v = .agg #[v0, v1, v2, v3, v4] ∧ p = y0.2 ++ (y1.2 ++ (y2.2 ++ (y3.2 ++ y4.2))) ∧
      DataW.trod enc P w base spare held n f0.type [v0] = some y0 ∧ DataW.trod enc P w base spare held n f1.type [v1] = some y1 ∧ DataW.trod enc P w base spare held n f2.type [v2] = some y2 ∧ DataW.trod enc P w base spare held n f3.type [v3] = some y3 ∧ DataW.trod enc P w base spare held n f4.type [v4] = some y4 := by
  obtain ⟨cs, rfl, hsz⟩ := okWide_struct hs hv
  obtain ⟨l⟩ := cs
  match l, hsz.trans hC with
  | [c0, c1, c2, c3, c4], _ =>
    obtain ⟨fuel, hf⟩ := h
    obtain ⟨xs, n, _, hx, _, hlen, hg⟩ := DataW.trod_struct hs hf
    obtain ⟨o0, k0⟩ := hone_of hone 0 f0 rfl
    obtain ⟨o1, k1⟩ := hone_of hone 1 f1 rfl
    obtain ⟨o2, k2⟩ := hone_of hone 2 f2 rfl
    obtain ⟨o3, k3⟩ := hone_of hone 3 f3 rfl
    obtain ⟨o4, k4⟩ := hone_of hone 4 f4 rfl
    match xs, hlen with
    | [y0, y1, y2, y3, y4], _ =>
      simp only [Prod.mk.injEq] at hx
      exact ⟨c0, c1, c2, c3, c4, y0, y1, y2, y3, y4, n, rfl, by simpa using hx.2, by simpa [Value.cells, o0, k0] using hg 0 f0 rfl, by simpa [Value.cells, o1, k1] using hg 1 f1 rfl, by simpa [Value.cells, o2, k2] using hg 2 f2 rfl, by simpa [Value.cells, o3, k3] using hg 3 f3 rfl, by simpa [Value.cells, o4, k4] using hg 4 f4 rfl⟩

theorem argEntry {H : Type} {enc : TypeId × Value → H} {W : World} {r : Reach} {base : Nat} {v : Value} {d : DataW H} {p : List MemPlace} (hv : Value.okWide Try.prog W r base 71 v)
    (h : DataW.Trod enc Try.prog W 0 (fun _ => true) true 71 v d p) (hlt : ∀ x ∈ p, x.block < W.heap.size) :
    ∃ t m q y A c z B d, v = .agg #[.int .i64 t, .int .i64 m, .int .i64 q, .slice A (y : List Int).length c, .slice B (z : List Int).length d] ∧
      Rd W 0 W.heap.size A y ∧ y.length ≤ 9223372036854775807 ∧ Rd W 0 W.heap.size B z ∧ z.length ≤ 9223372036854775807 := by
  obtain ⟨v0, v1, v2, v3, v4, y0, y1, y2, y3, y4, n, rfl, rfl, h0, h1, h2, h3, h4⟩ := open_agg5 Try.underlying71 (by kernel_rfl) (by kernel_rfl) hv h
  obtain ⟨a0, e0, rfl, _⟩ := DataW.trod_int Try.underlying3 h0
  obtain ⟨a1, e1, rfl, _⟩ := DataW.trod_int Try.underlying3 h1
  obtain ⟨a2, e2, rfl, _⟩ := DataW.trod_int Try.underlying3 h2
  simp only [List.cons.injEq, and_true] at e0 e1 e2
  subst e0 e1 e2
  obtain ⟨A, c, y, rfl, hr, hl⟩ := trodInts h3 (fun x hx => hlt x (by simp [hx]))
  obtain ⟨B, d', z, rfl, hr', hl'⟩ := trodInts h4 (fun x hx => hlt x (by simp [hx]))
  exact ⟨a0, a1, a2, y, A, c, z, B, d', rfl, hr, hl, hr', hl'⟩

/-- what lies at place i of a slice of entries that came in -/
theorem entryAt {H : Type} {enc : TypeId × Value → H} {W : World} {n : Nat} {b o : Nat} {cs' : List Value} {y : DataW H × List MemPlace}
    (hcs : W.cells? 0 ⟨b, o, none⟩ 5 = some cs') (ht : DataW.trod enc Try.prog W 0 (fun _ => true) true n 71 cs' = some y) (hlt : ∀ x ∈ y.2, x.block < W.heap.size) :
    ∃ e : Ent, EntAt W 0 W.heap.size b o e ∧ e.seen.length ≤ 9223372036854775807 ∧ e.shown.length ≤ 9223372036854775807 := by
  obtain ⟨ys, n', hn', hy, hlen, hyl, hf⟩ := DataW.trod_struct Try.underlying71 ht
  have hC : Try.prog.cellsOf 71 = 5 := by kernel_rfl
  rw [hC] at hlen
  match cs', hlen with
  | [c0, c1, c2, c3, c4], _ =>
    match ys, hyl with
    | [y0, y1, y2, y3, y4], _ =>
      obtain ⟨_, _, hat⟩ := World.cells?_some hcs
      have hi1 : Try.prog.cellsOf 3 = 1 := cellsInt
      have hs1 : Try.prog.cellsOf 35 = 1 := by kernel_rfl
      have g0 := hf 0 _ rfl
      have g1 := hf 1 _ rfl
      have g2 := hf 2 _ rfl
      have g3 := hf 3 _ rfl
      have g4 := hf 4 _ rfl
      simp [hi1, hs1] at g0 g1 g2 g3 g4
      obtain ⟨a0, e0, _, _⟩ := DataW.trod_int Try.underlying3 g0
      obtain ⟨a1, e1, _, _⟩ := DataW.trod_int Try.underlying3 g1
      obtain ⟨a2, e2, _, _⟩ := DataW.trod_int Try.underlying3 g2
      simp only [List.cons.injEq, and_true] at e0 e1 e2
      subst e0 e1 e2
      have hp : y.2 = y0.2 ++ (y1.2 ++ (y2.2 ++ (y3.2 ++ y4.2))) := by rw [hy]; simp
      obtain ⟨A, c, s, rfl, hr, hl⟩ := trodInts g3 (fun x hx => hlt x (by rw [hp]; simp [hx]))
      obtain ⟨B, d, z, rfl, hr', hl'⟩ := trodInts g4 (fun x hx => hlt x (by rw [hp]; simp [hx]))
      have hc : ∀ i (h : i < 5), W.cell? ⟨b, o + i, none⟩ = [Value.int .i64 a0, .int .i64 a1, .int .i64 a2, .slice A s.length c, .slice B z.length d][i]? := fun i h => by
        have := hat i h
        rwa [Go.WideShapes.add_plain] at this
      exact ⟨⟨a0, a1, a2, s, z⟩, ⟨A, c, B, d, by simpa using hc 0 (by omega), by simpa using hc 1 (by omega), by simpa using hc 2 (by omega), by simpa using hc 3 (by omega), by simpa using hc 4 (by omega), hr, hr'⟩, hl, hl'⟩

theorem trodEntries {H : Type} {enc : TypeId × Value → H} {W : World} {fuel : Nat} {v : Value} {x : DataW H × List MemPlace} (hf : DataW.trod enc Try.prog W 0 (fun _ => true) true fuel 22 [v] = some x) (hlt : ∀ y ∈ x.2, y.block < W.heap.size) :
    ∃ es A c, v = .slice A (es : List Ent).length c ∧ RdE W 0 W.heap.size A es ∧ es.length ≤ 9223372036854775807 ∧ (∀ e ∈ es, e.seen.length ≤ 9223372036854775807 ∧ e.shown.length ≤ 9223372036854775807) ∧ es.length ≤ c := by
  rcases Go.Deep.open_slice Try.underlying22 hf with ⟨hcs, hx⟩ | ⟨a, len, cap, m, n, D, Pl, hcs, hb, hl, hm, hmm, hx, hi⟩
  · simp only [List.cons.injEq, and_true] at hcs
    subst hcs
    exact ⟨[], none, 0, rfl, RdE.nil, by simp, by simp, by simp⟩
  · simp only [List.cons.injEq, and_true] at hcs
    subst hcs
    simp only [if_true] at hmm
    have hC : Try.prog.cellsOf 71 = 5 := by kernel_rfl
    rw [hC] at hi hx
    have hlm : len ≤ maxLen := Nat.le_trans hl hm
    obtain ⟨b, off, spot⟩ := a
    by_cases hz : len = 0
    · subst hz
      exact ⟨[], _, cap, rfl, RdE.nil, by simp, by simp, by simp⟩
    · have hspot : spot = none := by
        obtain ⟨cs', h1, _⟩ := hi 0 (by omega)
        obtain ⟨_, hcl, hat⟩ := World.cells?_some h1
        have h0 := hat 0 (by omega)
        have hsome : ∃ u, W.cell? (((⟨b, off, spot⟩ : Addr).add (0 * 5)).add 0) = some u := ⟨cs'[0]'(by omega), h0.trans (List.getElem?_eq_getElem (by omega))⟩
        obtain ⟨u, hu⟩ := hsome
        simpa [Addr.add] using World.cell?_spot hu
      subst hspot
      have hE : ∀ i, i < len → ∃ e : Ent, EntAt W 0 W.heap.size b (off + i * 5) e ∧ e.seen.length ≤ 9223372036854775807 ∧ e.shown.length ≤ 9223372036854775807 := fun i hil => by
        obtain ⟨cs', h1, h2⟩ := hi i (by omega)
        rw [Go.WideShapes.add_plain] at h1
        exact entryAt h1 h2 (fun y hy => hlt y (by rw [hx]; exact List.mem_append_right _ (List.mem_flatMap.2 ⟨i, List.mem_range.2 (by omega), hy⟩)))
      let f : Nat → Ent := fun i => if h : i < len then Classical.choose (hE i h) else ent0
      have hf' : ∀ i (h : i < len), EntAt W 0 W.heap.size b (off + i * 5) (f i) ∧ (f i).seen.length ≤ 9223372036854775807 ∧ (f i).shown.length ≤ 9223372036854775807 := fun i h => by
        have := Classical.choose_spec (hE i h)
        simp only [f, dif_pos h]
        exact this
      have hlen : ((List.range len).map f).length = len := by simp
      refine ⟨(List.range len).map f, some ⟨b, off, none⟩, cap, by rw [hlen], fun hp => ⟨b, off, rfl, Nat.zero_le _, ?_, fun j hj => ?_⟩, by rw [hlen]; unfold maxLen at hlm; omega, fun e he => ?_, by rw [hlen]; exact hl⟩
      · exact (hf' 0 (by omega)).1.lt
      · rw [hlen] at hj
        simpa using (hf' j hj).1
      · obtain ⟨i, hi1, rfl⟩ := List.mem_map.1 he
        exact (hf' i (List.mem_range.1 hi1)).2

theorem argEntryS {H : Type} {enc : TypeId × Value → H} {W : World} {r : Reach} {base : Nat} {v : Value} {d : DataW H} {p : List MemPlace} (hv : Value.okWide Try.prog W r base 22 v)
    (h : DataW.Trod enc Try.prog W 0 (fun _ => true) true 22 v d p) (hlt : ∀ x ∈ p, x.block < W.heap.size) :
    ∃ es A c, v = .slice A (es : List Ent).length c ∧ RdE W 0 W.heap.size A es ∧ es.length ≤ 9223372036854775807 ∧ ∀ e ∈ es, e.seen.length ≤ 9223372036854775807 ∧ e.shown.length ≤ 9223372036854775807 := by
  obtain ⟨a0, len, cap, rfl⟩ := okWide_slice Try.underlying22 hv
  obtain ⟨fuel, hf⟩ := h
  simp only [Value.cells] at hf
  obtain ⟨es, A, c, h1, h2, h3, h4, _⟩ := trodEntries hf hlt
  exact ⟨es, A, c, h1, h2, h3, h4⟩


end Go.Proofs.Yteajjbfecpffeaa
