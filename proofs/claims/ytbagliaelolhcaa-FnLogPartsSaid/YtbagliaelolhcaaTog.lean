/-
  The entries of two logs that belong together, in the program: the contract. The conditions are bounds on lengths.
-/
import Derived.Test.YtbagliaelolhcaaPureE
import Derived.Test.YtbagliaelolhcaaOwnR
import Derived.Test.YtbagliaelolhcaaFindI
import Derived.Test.YtbagliaelolhcaaFindE
import Derived.Deep.RegionHeld3
namespace Go.Proofs.Ytbagliaelolhcaa
open Go.RowKit Go.ChangeShapes Go.WideShapes
set_option linter.unusedVariables false
set_option linter.unusedSimpArgs false

/-- the row r is entry e, then entry f -/
def PairRow (w : World) (lo hi : Nat) (e f : Ent) (r : List Value) : Prop := ∃ r1 r2, r = r1 ++ r2 ∧ EntRow w lo hi e r1 ∧ EntRow w lo hi f r2
theorem PairRow.len {w : World} {lo hi : Nat} {e f : Ent} {r : List Value} (h : PairRow w lo hi e f r) : r.length = 10 := by
  obtain ⟨r1, r2, rfl, h1, h2⟩ := h; rw [List.length_append, h1.len, h2.len]
theorem PairRow.keep {w w' : World} {lo hi : Nat} {e f : Ent} {r : List Value} (h : PairRow w lo hi e f r) (hk : ∀ b o, lo ≤ b → b < hi → b < w.heap.size → w'.cell? ⟨b, o, none⟩ = w.cell? ⟨b, o, none⟩) : PairRow w' lo hi e f r := by
  obtain ⟨r1, r2, rfl, h1, h2⟩ := h
  exact ⟨r1, r2, rfl, h1.keep hk, h2.keep hk⟩
/-- rows, one a pair of entries -/
def PairRows (w : World) (lo hi : Nat) (a b : List Ent) (ps : List (Nat × Nat)) (rows : List (List Value)) : Prop :=
  rows.length = ps.length ∧ ∀ j (h : j < ps.length) (h' : j < rows.length), PairRow w lo hi (eAt a ps[j].1) (eAt b ps[j].2) rows[j]
section
variable {w w' : World} {lo hi B : Nat} {a b : List Ent} {ps : List (Nat × Nat)} {rows : List (List Value)}
theorem PairRows.nil : PairRows w lo hi a b [] [] := ⟨rfl, fun j h => absurd h (by simp)⟩
theorem PairRows.snoc {x : Nat × Nat} {r : List Value} (h : PairRows w lo hi a b ps rows) (hr : PairRow w lo hi (eAt a x.1) (eAt b x.2) r) : PairRows w lo hi a b (ps ++ [x]) (rows ++ [r]) := by
  refine ⟨by simp [h.1], fun j h1 h2 => ?_⟩
  have e1 := h.1
  by_cases hj : j < rows.length
  · have e2 : (rows ++ [r])[j] = rows[j] := List.getElem_append_left hj
    have e3 : (ps ++ [x])[j] = ps[j]'(by omega) := List.getElem_append_left (by omega)
    rw [e2, e3]
    exact h.2 j (by omega) hj
  · have e2 : (rows ++ [r])[j] = r := by rw [List.getElem_append_right (by omega)]; simp
    have e3 : (ps ++ [x])[j] = x := by rw [List.getElem_append_right (by omega)]; simp
    rw [e2, e3]
    exact hr
theorem PairRows.keep (h : PairRows w lo hi a b ps rows) (hk : ∀ b o, lo ≤ b → b < hi → b < w.heap.size → w'.cell? ⟨b, o, none⟩ = w.cell? ⟨b, o, none⟩) : PairRows w' lo hi a b ps rows :=
  ⟨h.1, fun j h1 h2 => (h.2 j h1 h2).keep hk⟩
theorem PairRows.below (h : PairRows w lo hi a b ps rows) (hb : Below B w w') (hB : hi ≤ B) : PairRows w' lo hi a b ps rows := h.keep fun b o _ h2 _ => hb.cell (p := ⟨b, o, none⟩) (by show b < B; omega)
end
theorem OwnR.of_snoc {w : World} {lo sz : Nat} {t : TypeId} {v : Value} {rows : List (List Value)} {x : List Value} (h : w.ownsRow lo t sz v (rows.length + 1) (rows.flatten ++ x)) (h2 : ∀ r ∈ rows, r.length = sz) (hx : x.length = sz) : OwnR w lo w.heap.size t sz v (rows ++ [x]) :=
  OwnR.of_row (by rw [List.length_append, List.flatten_append]; simpa using h) (fun r hr => by
    rcases List.mem_append.1 hr with hr | hr
    · exact h2 r hr
    · rw [List.mem_singleton.1 hr]; exact hx) (Nat.le_refl _)
theorem tgInfo : (Try.prog.info? 110).map (fun i => (i.zero, i.size, i.bytes)) = some (some (.agg #[.int .i64 0, .int .i64 0, .int .i64 0, .slice none 0 0, .slice none 0 0, .int .i64 0, .int .i64 0, .int .i64 0, .slice none 0 0, .slice none 0 0]), 10, 144) := by kernel_rfl

set_option maxRecDepth 100000 in
set_option maxHeartbeats 4000000 in
theorem together_any (a : List Ent) (A : Option Addr) (c : Nat) (b : List Ent) (B : Option Addr) (d : Nat) {l h l' h' : Nat} (w : World) (hr0 : RdE w l h A a) (hrb0 : RdE w l' h' B b) (hl : a.length ≤ 1000) (hlb : b.length ≤ 1000) :
    Calls Try.prog 90 #[.slice A a.length c, .slice B b.length d] w fun e w' => ∃ v rows, e = .returned v ∧ OwnR w' w.heap.size w'.heap.size 110 10 v rows ∧ PairRows w' 0 w.heap.size a b (tgTo a b a.length) rows ∧ Below w.heap.size w w' := by
  have hr := hr0.std
  have hrb := hrb0.std
  obtain ⟨i0, hi0, hz0, hz1, hz2⟩ := info_parts tgInfo
  clear hr0 hrb0
  go_enter Try.func90, Try.ntmps90
  go_wp2
  go_loopw [5, 7, 8, 11] (fun v _ _ i wr => ∃ (k : Nat) (rows : List (List Value)), k ≤ a.length ∧ i = .int .i64 k ∧ OwnR wr w.heap.size wr.heap.size 110 10 v rows ∧ PairRows wr 0 w.heap.size a b (tgTo a b k) rows ∧ Below w.heap.size w wr) (fun _ _ _ i _ => a.length - (intOf i).toNat)
  case atStart => exact ⟨0, [], Nat.zero_le _, rfl, OwnR.nil, PairRows.nil, Below.refl _ _⟩
  case round =>
    obtain ⟨k, rows, hk, rfl, hown, hpr, hbr⟩ := hrel
    have hszr := hbr.size
    obtain ⟨Av, cv, rfl, hvc, hvm, -, -⟩ := hown.cells
    by_cases hlt : k < a.length
    · obtain ⟨b0, off, rfl, _, _, hc⟩ := (hr.st hbr) (by omega)
      obtain ⟨A1, c1, A2, c2, x0, x1, x2, x3, x4, r1, r2⟩ := hc k hlt
      have hrb2 := hrb.st hbr
      have hek : eAt a k = a[k] := eAt_get hlt
      have hrl : rows.length ≤ (tgTo a b k).length := Nat.le_of_eq hpr.1
      have htl := tgTo_len a b k
      have hb00 := World.block_lt_of_cell? wr _ x0
      have rr1 := (r1.std)
      clear hc
      have hrow1 : EntRow wr 0 w.heap.size a[k] [.int .i64 a[k].time, .int .i64 a[k].msg, .int .i64 a[k].part, .slice A1 a[k].seen.length c1, .slice A2 a[k].shown.length c2] := ⟨A1, c1, A2, c2, rfl, r1, r2⟩
      cases ht : tgP b (eAt a k) with
      | false =>
        have hst := Lib.hid (tgTo_no (a := a) ht)
        have hneg : findI b a[k].msg a[k].part = -1 := by
          have h1 := findI_range b a[k].msg a[k].part
          rw [hek] at ht
          simp only [tgP, decide_eq_false_iff_not] at ht
          omega
        clear ht hek
        go_wp2_with fail
        (with_reducible refine (entryIndex_n b B b.length d a[k].msg a[k].part _ (hrb2.alloc _) rfl (by omega) _ hneg).mono ?_)
        rintro e w2 ⟨rfl, hb2⟩
        have ho2 := Lib.hid ((hown.alloc (.cells #[.int .i64 a[k].time, .int .i64 a[k].msg, .int .i64 a[k].part, .slice A1 a[k].seen.length c1, .slice A2 a[k].shown.length c2] 42)).st hb2)
        have s2 : wr.heap.size + 1 ≤ w2.heap.size := by have := hb2.size; simpa using this
        have hB2 := (hbr.alloc hszr (.cells #[.int .i64 a[k].time, .int .i64 a[k].msg, .int .i64 a[k].part, .slice A1 a[k].seen.length c1, .slice A2 a[k].shown.length c2] 42)).trans (hb2.mono (by simp; omega))
        have hk2 : ∀ b o, 0 ≤ b → b < w.heap.size → b < wr.heap.size → w2.cell? ⟨b, o, none⟩ = wr.cell? ⟨b, o, none⟩ := fun b o _ h2 h3 => (hb2.cell (p := ⟨b, o, none⟩) (by simp; omega)).trans (World.cell?_alloc_lt wr _ _ (by exact h3))
        have hp2 := Lib.hid (hpr.keep (w' := w2) hk2)
        have hBH := Lib.hid hB2
        clear hb2 hown hbr hpr hB2 hk2
        go_wp2
        go_roundw
        case rel => exact ⟨k + 1, rows, by omega, by go_num, ho2.out.mono (Nat.le_refl _) (by omega), by rw [hst.out]; exact hp2.out, hBH.out⟩
        case measure => simp [intOf]; omega
      | true =>
        obtain ⟨hjl, hfe⟩ := tgP_lt ht
        have hst := Lib.hid (tgTo_yes (a := a) ht)
        obtain ⟨j, hj⟩ : ∃ j, tgJ b (eAt a k) = j := ⟨_, rfl⟩
        rw [hj] at hst hjl hfe
        rw [hek] at hfe
        clear hj ht
        go_wp2_with fail
        (with_reducible refine (entryIndex_n b B b.length d a[k].msg a[k].part _ (hrb2.alloc _) rfl (by omega) _ hfe).mono ?_)
        rintro e w2 ⟨rfl, hb2⟩
        have ho2 := (hown.alloc (.cells #[.int .i64 a[k].time, .int .i64 a[k].msg, .int .i64 a[k].part, .slice A1 a[k].seen.length c1, .slice A2 a[k].shown.length c2] 42)).st hb2
        have s2 : wr.heap.size + 1 ≤ w2.heap.size := by have := hb2.size; simpa using this
        have hB2 := (hbr.alloc hszr (.cells #[.int .i64 a[k].time, .int .i64 a[k].msg, .int .i64 a[k].part, .slice A1 a[k].seen.length c1, .slice A2 a[k].shown.length c2] 42)).trans (hb2.mono (by simp; omega))
        have bk := (Bk.new wr 42 #[.int .i64 a[k].time, .int .i64 a[k].msg, .int .i64 a[k].part, .slice A1 a[k].seen.length c1, .slice A2 a[k].shown.length c2]).st hb2
        have y0 := bk.cell 0
        have y1 := bk.cell 1
        have y2 := bk.cell 2
        have y3 := bk.cell 3
        have y4 := bk.cell 4
        simp at y0 y1 y2 y3 y4
        have hk2 : ∀ b o, 0 ≤ b → b < w.heap.size → b < wr.heap.size → w2.cell? ⟨b, o, none⟩ = wr.cell? ⟨b, o, none⟩ := fun b o _ h2 h3 => (hb2.cell (p := ⟨b, o, none⟩) (by simp; omega)).trans (World.cell?_alloc_lt wr _ _ (by exact h3))
        have hp2 := hpr.keep (w' := w2) hk2
        have hrow2 := hrow1.keep hk2
        obtain ⟨b2, off2, rfl, _, hb2l, hc2⟩ := (hrb2.keep (w' := w2) hk2) (by omega)
        obtain ⟨A3, c3, A4, c4, z0, z1, z2, z3, z4, r3, r4⟩ := hc2 j hjl
        have hejb : eAt b j = b[j] := eAt_get hjl
        have hrow3 : EntRow w2 0 w.heap.size b[j] [.int .i64 b[j].time, .int .i64 b[j].msg, .int .i64 b[j].part, .slice A3 b[j].seen.length c3, .slice A4 b[j].shown.length c4] := ⟨A3, c3, A4, c4, rfl, r3, r4⟩
        have ag : (Value.slice Av rows.length cv).ownBlock ≠ some wr.heap.size := fun e => by have := (hown.lt _ e).2.2; omega
        have ab : (Value.slice Av rows.length cv).ownBlock ≠ some b2 := fun e => by have := (hown.lt _ e).1; omega
        have hvl := Lib.hid (fun q hq => hown.lt q hq)
        have g1 : wr.heap.size < w2.heap.size := by omega
        have g2 : b2 < w2.heap.size := by omega
        have hj0 : (0 : Int) ≤ (j : Int) := Int.natCast_nonneg _
        have hj1 : (j : Int) < (b.length : Int) := by omega
        have hB2H := Lib.hid hB2
        have hp2H := Lib.hid hp2
        have hrow2H := Lib.hid hrow2
        have hrow3H := Lib.hid hrow3
        have hekH := Lib.hid hek
        have hejH := Lib.hid hejb
        have ho21 := ho2.1
        have ho22 := Lib.hid ho2.2.1
        clear hb2 hown hbr bk hk2 hp2 hpr hrow1 hrow2 hrow3 hc2 r1 r2 r3 r4 rr1 x0 x1 x2 x3 x4 hB2 hek hejb ho2
        go_wp2_with fail
        go_region_held3 (fun w' => (w'.cell? ⟨wr.heap.size, 0, none⟩ = some (.int .i64 a[k].time) ∧ w'.cell? ⟨wr.heap.size, 1, none⟩ = some (.int .i64 a[k].msg) ∧ w'.cell? ⟨wr.heap.size, 2, none⟩ = some (.int .i64 a[k].part) ∧ w'.cell? ⟨wr.heap.size, 3, none⟩ = some (.slice A1 a[k].seen.length c1) ∧ w'.cell? ⟨wr.heap.size, 4, none⟩ = some (.slice A2 a[k].shown.length c2)) ∧
            (w'.cell? ⟨b2, off2 + j * 5, none⟩ = some (.int .i64 b[j].time) ∧ w'.cell? ⟨b2, off2 + j * 5 + 1, none⟩ = some (.int .i64 b[j].msg) ∧ w'.cell? ⟨b2, off2 + j * 5 + 2, none⟩ = some (.int .i64 b[j].part) ∧ w'.cell? ⟨b2, off2 + j * 5 + 3, none⟩ = some (.slice A3 b[j].seen.length c3) ∧ w'.cell? ⟨b2, off2 + j * 5 + 4, none⟩ = some (.slice A4 b[j].shown.length c4)))
          (first
            | go_keep
            | (go_split_ands
               (repeat' apply And.intro) <;> (first | (rw [hgrow.cell_far _ (by simp; omega) (Ne.symm ag)]; first | assumption | (rw [World.cell?_alloc_lt _ _ _ (by simp; omega)]; assumption)) | (rw [hgrow.cell_far _ (by simp; omega) (Ne.symm ab)]; first | assumption | (rw [World.cell?_alloc_lt _ _ _ (by simp; omega)]; assumption)))))
          ((refine step_append_lies _ (by rfl) _ _ _ (by rfl) w.heap.size 110 i0 _ 10 144 Try.underlying107 hi0 hz0 hz1 hz2 rfl (by omega) (.slice Av rows.length cv) rows.length rows.flatten (by rfl) ((ho21.alloc _).drew)
              ⟨w2.heap.size, 0, none⟩ 1 1 [.int .i64 a[k].time, .int .i64 a[k].msg, .int .i64 a[k].part, .slice A1 a[k].seen.length c1, .slice A2 a[k].shown.length c2, .int .i64 b[j].time, .int .i64 b[j].msg, .int .i64 b[j].part, .slice A3 b[j].seen.length c3, .slice A4 b[j].shown.length c4] (by rfl) (by rfl) (World.news_of_block (cs := #[.int .i64 a[k].time, .int .i64 a[k].msg, .int .i64 a[k].part, .slice A1 a[k].seen.length c1, .slice A2 a[k].shown.length c2, .int .i64 b[j].time, .int .i64 b[j].msg, .int .i64 b[j].part, .slice A3 b[j].seen.length c3, .slice A4 b[j].shown.length c4]) (t := 110) (fr := (0, 0)) (heap_alloc_new w2 _)) (by simp [Value.oneCell'])
              (by omega) (by unfold maxLen; omega) (by omega) (by simp; omega) (w2.heap.size + 1) (by simp) ?_; intro gg cap w3 hown3 hgrow hat hlt3))
        have hO3 : OwnR w3 w.heap.size w3.heap.size 110 10 (.slice (some ⟨gg, 0, none⟩) (rows.length + 1) cap) (rows ++ [[.int .i64 a[k].time, .int .i64 a[k].msg, .int .i64 a[k].part, .slice A1 a[k].seen.length c1, .slice A2 a[k].shown.length c2, .int .i64 b[j].time, .int .i64 b[j].msg, .int .i64 b[j].part, .slice A3 b[j].seen.length c3, .slice A4 b[j].shown.length c4]]) := OwnR.of_snoc hown3 ho22.out rfl
        have hbx : Below w.heap.size w2 w3 := (((Below.refl w.heap.size w2).alloc (by omega) (.cells #[.int .i64 a[k].time, .int .i64 a[k].msg, .int .i64 a[k].part, .slice A1 a[k].seen.length c1, .slice A2 a[k].shown.length c2, .int .i64 b[j].time, .int .i64 b[j].msg, .int .i64 b[j].part, .slice A3 b[j].seen.length c3, .slice A4 b[j].shown.length c4] 110)).drew).grown hgrow (by simp; omega) (fun q hq => (hvl.out q hq).1)
        have hp3 := Lib.hid ((hp2H.out.below hbx (Nat.le_refl _)).snoc (x := (k, j)) (r := [.int .i64 a[k].time, .int .i64 a[k].msg, .int .i64 a[k].part, .slice A1 a[k].seen.length c1, .slice A2 a[k].shown.length c2, .int .i64 b[j].time, .int .i64 b[j].msg, .int .i64 b[j].part, .slice A3 b[j].seen.length c3, .slice A4 b[j].shown.length c4]) (by
          show PairRow w3 0 w.heap.size (eAt a k) (eAt b j) _
          rw [hekH.out, hejH.out]
          exact ⟨_, _, rfl, hrow2H.out.keep fun b o _ h2 _ => hbx.cell (p := ⟨b, o, none⟩) h2, hrow3H.out.keep fun b o _ h2 _ => hbx.cell (p := ⟨b, o, none⟩) h2⟩))
        have hB3 := Lib.hid (hB2H.out.trans hbx)
        have hOH := Lib.hid hO3
        clear hO3 hbx hown3 hgrow hat y0 y1 y2 y3 y4 z0 z1 z2 z3 z4
        go_wp2
        go_roundw
        case rel => exact ⟨k + 1, _, by omega, by go_num, hOH.out, by rw [hst.out]; exact hp3.out, hB3.out⟩
        case measure => simp [intOf]; omega
    · obtain rfl : k = a.length := by omega
      have ho := Lib.hid hown
      have hp := Lib.hid hpr
      clear hown hpr
      go_wp2
      go_ret
      exact ⟨_, rows, rfl, ho.out, hp.out, hbr⟩
end Go.Proofs.Ytbagliaelolhcaa
