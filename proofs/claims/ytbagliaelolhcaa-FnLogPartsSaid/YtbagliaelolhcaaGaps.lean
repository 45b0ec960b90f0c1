/-
  The time gaps of two logs, in the reference: the contract. The conditions are bounds on lengths and times.
-/
import Derived.Test.YtbagliaelolhcaaTog
import Derived.Test.YtbagliaelolhcaaKeep
import Derived.IntWalk
namespace Go.Proofs.Ytbagliaelolhcaa
open Go.RowKit Go.ChangeShapes Go.WideShapes
set_option linter.unusedVariables false
set_option linter.unusedSimpArgs false

theorem OwnR.lenR {w : World} {lo hi sz n m c : Nat} {t : TypeId} {A : Option Addr} {rows : List (List Value)} (h : OwnR w lo hi t sz (.slice A n c) rows) (e : n = m) : OwnR w lo hi t sz (.slice A m c) rows := e ▸ h
/-- a row of the gaps -/
def gapRow (a b : List Ent) (p q : Int) (x : Nat × Nat) : List Value := [.int .i64 (eAt a x.1).msg, .int .i64 (eAt a x.1).part, .int .i64 ((eAt a x.1).time + p), .int .i64 ((eAt b x.2).time - q)]
/-- rows of the pairs of places -/
def PrRows (w : World) (lo : Nat) (ps : List (Nat × Nat)) (rows : List (List Value)) : Prop :=
  rows.length = ps.length ∧ ∀ j (h : j < ps.length) (h' : j < rows.length), ∃ m, rows[j] = [.slice (some ⟨m, 0, none⟩) 2 2] ∧ lo ≤ m ∧ w.heap[m]? = some (.cells #[.int .i64 (ps[j].1 : Int), .int .i64 (ps[j].2 : Int)] 3 (0, 0))
section
variable {w w' : World} {lo B : Nat} {ps : List (Nat × Nat)} {rows : List (List Value)}
theorem PrRows.nil : PrRows w lo [] [] := ⟨rfl, fun j h => absurd h (by simp)⟩
theorem PrRows.keep (h : PrRows w lo ps rows) (hk : ∀ (k : Nat) (cs : Array Value), w.heap[k]? = some (Obj.cells cs 3 (0, 0)) → w'.heap[k]? = w.heap[k]?) : PrRows w' lo ps rows :=
  ⟨h.1, fun j h1 h2 => by
    obtain ⟨m, e1, e2, e3⟩ := h.2 j h1 h2
    exact ⟨m, e1, e2, (hk m _ e3).trans e3⟩⟩
theorem PrRows.st (h : PrRows w lo ps rows) (hb : Below w.heap.size w w') : PrRows w' lo ps rows := h.keep fun k cs hk => hb.block k (Array.getElem?_eq_some_iff.1 hk).1
theorem PrRows.alloc (h : PrRows w lo ps rows) (o : Obj) : PrRows (w.alloc o) lo ps rows := h.keep fun k cs hk => Below.heap_alloc w o k (Array.getElem?_eq_some_iff.1 hk).1
theorem PrRows.grown {lo' hi' sz' : Nat} {t' : TypeId} {v' : Value} {rows' : List (List Value)} (h : PrRows w lo ps rows) (h' : OwnR w lo' hi' t' sz' v' rows') (hg : w.grownBy w' v'.ownBlock) (hne : t' ≠ 3) : PrRows w' lo ps rows :=
  h.keep fun k cs hk => hg.block k (Array.getElem?_eq_some_iff.1 hk).1 (fun e => by
    obtain ⟨c2, e2⟩ := h'.blockT k e.symm
    rw [hk] at e2
    injection e2 with e2
    injection e2 with _ e2 _
    exact hne e2.symm)
theorem PrRows.snoc {x : Nat × Nat} {m : Nat} (h : PrRows w lo ps rows) (hl : lo ≤ m) (hm : w.heap[m]? = some (.cells #[.int .i64 (x.1 : Int), .int .i64 (x.2 : Int)] 3 (0, 0))) : PrRows w lo (ps ++ [x]) (rows ++ [[.slice (some ⟨m, 0, none⟩) 2 2]]) := by
  refine ⟨by simp [h.1], fun j h1 h2 => ?_⟩
  have e1 := h.1
  by_cases hj : j < rows.length
  · have e2 : (rows ++ [[Value.slice (some ⟨m, 0, none⟩) 2 2]])[j] = rows[j] := List.getElem_append_left hj
    have e3 : (ps ++ [x])[j] = ps[j]'(by omega) := List.getElem_append_left (by omega)
    rw [e2, e3]
    exact h.2 j (by omega) hj
  · have e2 : (rows ++ [[Value.slice (some ⟨m, 0, none⟩) 2 2]])[j] = [Value.slice (some ⟨m, 0, none⟩) 2 2] := by rw [List.getElem_append_right (by omega)]; simp
    have e3 : (ps ++ [x])[j] = x := by rw [List.getElem_append_right (by omega)]; simp
    rw [e2, e3]
    exact ⟨m, rfl, hl, hm⟩
end
theorem gapInfo : (Try.prog.info? 105).map (fun i => (i.zero, i.size, i.bytes)) = some (some (.agg #[.int .i64 0, .int .i64 0, .int .i64 0, .int .i64 0]), 4, 32) := by kernel_rfl
theorem slRInfo : (Try.prog.info? 37).map (fun i => (i.zero, i.size, i.bytes)) = some (some (.slice none 0 0), 1, 24) := by kernel_rfl

set_option maxRecDepth 100000 in
set_option maxHeartbeats 4000000 in
theorem rbGaps_any (a : List Ent) (A : Option Addr) (c : Nat) (b : List Ent) (B : Option Addr) (d : Nat) (p q : Int) {l h l' h' : Nat} (w : World) (hr0 : RdE w l h A a) (hrb0 : RdE w l' h' B b) (ha : logB a = true) (hb : logB b = true) (hp : 0 ≤ p ∧ p ≤ 60) (hq : 0 ≤ q ∧ q ≤ 60) :
    Calls Try.prog 87 #[.slice A a.length c, .slice B b.length d, .int .i64 p, .int .i64 q] w fun e w' => ∃ v1 v2 rows, e = .returned (.tuple #[v1, v2]) ∧ OwnR w' w.heap.size w'.heap.size 105 4 v1 ((tgTo a b a.length).map (gapRow a b p q)) ∧ OwnR w' w.heap.size w'.heap.size 37 1 v2 rows ∧ PrRows w' w.heap.size (tgTo a b a.length) rows ∧ Below w.heap.size w w' := by
  have hr := hr0.std
  have hrb := hrb0.std
  have hl := log_len ha
  have hlb := log_len hb
  have haH := Lib.hid ha
  have hbH := Lib.hid hb
  obtain ⟨hp0, hp1⟩ := hp
  obtain ⟨hq0, hq1⟩ := hq
  obtain ⟨i0, hi0, hz0, hz1, hz2⟩ := info_parts gapInfo
  clear hr0 hrb0 ha hb
  go_enter Try.func87, Try.ntmps87
  go_wp2
  go_loopw [10, 11, 12, 13, 14, 17] (fun v1 v2 _ _ _ i wr => ∃ (k : Nat) (rows : List (List Value)), k ≤ a.length ∧ i = .int .i64 k ∧ OwnR wr w.heap.size wr.heap.size 105 4 v1 ((tgTo a b k).map (gapRow a b p q)) ∧ OwnR wr w.heap.size wr.heap.size 37 1 v2 rows ∧ PrRows wr w.heap.size (tgTo a b k) rows ∧ Below w.heap.size w wr) (fun _ _ _ _ _ i _ => a.length - (intOf i).toNat)
  case atStart => exact ⟨0, [], Nat.zero_le _, rfl, OwnR.nil, OwnR.nil, PrRows.nil, Below.refl _ _⟩
  case round =>
    obtain ⟨k, rows, hk, rfl, hown, hown2, hpr, hbr⟩ := hrel
    have hszr := hbr.size
    obtain ⟨Av, cv, rfl, hvc, hvm, -, -⟩ := hown.cells
    obtain ⟨Bv, dv, rfl, hvc2, hvm2, -, -⟩ := hown2.cells
    by_cases hlt : k < a.length
    · obtain ⟨b0, off, rfl, _, _, hc⟩ := (hr.st hbr) (by omega)
      obtain ⟨A1, c1, A2, c2, x0, x1, x2, x3, x4, r1, r2⟩ := hc k hlt
      have hrb2 := hrb.st hbr
      have hek : eAt a k = a[k] := eAt_get hlt
      have htl := tgTo_len a b k
      have hrl : rows.length ≤ (tgTo a b k).length := Nat.le_of_eq hpr.1
      have hml : ((tgTo a b k).map (gapRow a b p q)).length ≤ (tgTo a b k).length := Nat.le_of_eq (List.length_map _)
      have hta := (log_at haH.out k hlt).1
      obtain ⟨EB, hEB⟩ : ∃ EB, EB = Obj.cells #[.int .i64 a[k].time, .int .i64 a[k].msg, .int .i64 a[k].part, .slice A1 a[k].seen.length c1, .slice A2 a[k].shown.length c2] 42 (0, 0) := ⟨_, rfl⟩
      clear hc r1 r2
      cases ht : tgP b (eAt a k) with
      | false =>
        have hst := Lib.hid (tgTo_no (a := a) ht)
        have hneg : findI b a[k].msg a[k].part = -1 := by
          have h1 := findI_range b a[k].msg a[k].part
          rw [hek] at ht
          simp only [tgP, decide_eq_false_iff_not] at ht
          omega
        clear ht hek
        go_wp2_with fail
        (with_reducible refine (lgFind_v b B d a[k].msg a[k].part _ (hrb2.alloc _) (by omega) _ hneg).mono ?_)
        rintro e w2 ⟨rfl, hb2⟩
        rw [← hEB] at hb2
        clear hEB
        have s2 : wr.heap.size + 1 ≤ w2.heap.size := by have := hb2.size; simpa using this
        have ho1 := Lib.hid (((hown.alloc _).st hb2).mono (Nat.le_refl _) (show wr.heap.size ≤ w2.heap.size by omega))
        have ho2 := Lib.hid (((hown2.alloc _).st hb2).mono (Nat.le_refl _) (show wr.heap.size ≤ w2.heap.size by omega))
        have hp2 := Lib.hid ((hpr.alloc _).st hb2)
        have hB0 : Below w.heap.size w w2 := (hbr.alloc hszr EB).trans (hb2.mono (by simp; omega))
        have hBH := Lib.hid hB0
        clear hb2 hown hown2 hbr hpr hB0
        go_wp2
        go_roundw
        case rel => exact ⟨k + 1, rows, by omega, by go_num, by rw [hst.out]; exact ho1.out.lenR (by simp), ho2.out, by rw [hst.out]; exact hp2.out, hBH.out⟩
        case measure => simp [intOf]; omega
      | true =>
        obtain ⟨hjl, hfe⟩ := tgP_lt ht
        have hst := Lib.hid (tgTo_yes (a := a) ht)
        obtain ⟨j, hj⟩ : ∃ j, tgJ b (eAt a k) = j := ⟨_, rfl⟩
        rw [hj] at hst hjl hfe
        rw [hek] at hfe
        have htb := (log_at hbH.out j hjl).1
        have hejb : eAt b j = b[j] := eAt_get hjl
        have hgr : gapRow a b p q (k, j) = [.int .i64 a[k].msg, .int .i64 a[k].part, .int .i64 (a[k].time + p), .int .i64 (b[j].time - q)] := by simp only [gapRow, hek, hejb]
        have hgH := Lib.hid hgr
        clear hj ht hgr hek hejb
        go_wp2_with fail
        (with_reducible refine (lgFind_v b B d a[k].msg a[k].part _ (hrb2.alloc _) (by omega) _ hfe).mono ?_)
        rintro e w2 ⟨rfl, hb2⟩
        rw [← hEB] at hb2
        have ho1 := (hown.alloc EB).st hb2
        have ho2 := (hown2.alloc EB).st hb2
        have hp2 := (hpr.alloc EB).st hb2
        have s2 : wr.heap.size + 1 ≤ w2.heap.size := by have := hb2.size; simpa using this
        have hB2 := (hbr.alloc hszr EB).trans (hb2.mono (by simp; omega))
        have bk : Bk w2 wr.heap.size 42 #[.int .i64 a[k].time, .int .i64 a[k].msg, .int .i64 a[k].part, .slice A1 a[k].seen.length c1, .slice A2 a[k].shown.length c2] := by rw [hEB] at hb2; exact (Bk.new wr 42 _).st hb2
        have y0 := bk.cell 0
        have y1 := bk.cell 1
        have y2 := bk.cell 2
        simp at y0 y1 y2
        have hk2 : ∀ b o, 0 ≤ b → b < w.heap.size → b < wr.heap.size → w2.cell? ⟨b, o, none⟩ = wr.cell? ⟨b, o, none⟩ := fun b o _ h2 h3 => (hb2.cell (p := ⟨b, o, none⟩) (by simp; omega)).trans (World.cell?_alloc_lt wr _ _ (by exact h3))
        obtain ⟨b2, off2, rfl, _, hb2l, hc2⟩ := (hrb2.keep (w' := w2) hk2) (by omega)
        obtain ⟨A3, c3, A4, c4, z0, z1, z2, z3, z4, r3, r4⟩ := hc2 j hjl
        have ag : (Value.slice Av ((tgTo a b k).map (gapRow a b p q)).length cv).ownBlock ≠ some wr.heap.size := fun e => by have := (hown.lt _ e).2.2; omega
        have ab : (Value.slice Av ((tgTo a b k).map (gapRow a b p q)).length cv).ownBlock ≠ some b2 := fun e => by have := (hown.lt _ e).1; omega
        have hvl := Lib.hid (fun q hq => hown.lt q hq)
        have hvl2 := Lib.hid (fun q hq => hown2.lt q hq)
        have g1 : wr.heap.size < w2.heap.size := by omega
        have g2 : b2 < w2.heap.size := by omega
        have hj0 : (0 : Int) ≤ (j : Int) := Int.natCast_nonneg _
        have hj1 : (j : Int) < (b.length : Int) := by omega
        have hw1 : IntKind.i64.wrap (a[k].time + p) = a[k].time + p := IntWalk.i64_in _ (by omega)
        have hw2 : IntKind.i64.wrap (b[j].time - q) = b[j].time - q := IntWalk.i64_in _ (by omega)
        have hw1' : wrap64 (a[k].time + p) = a[k].time + p := IntWalk.wrap64_in _ (by omega)
        have hw2' : wrap64 (b[j].time - q) = b[j].time - q := IntWalk.wrap64_in _ (by omega)
        have hB2H := Lib.hid hB2
        have hp2H := Lib.hid hp2
        have ho2H := Lib.hid ho2
        have ho1H := Lib.hid ho1
        have ho11 := ho1.1
        have ho12 := Lib.hid ho1.2.1
        obtain ⟨GL, hGL⟩ : ∃ GL, GL = (tgTo a b k).map (gapRow a b p q) := ⟨_, rfl⟩
        rw [← hGL] at ho11 ho12 ag ab hvl hvc ho1H hml ⊢
        have hGLH := Lib.hid hGL
        clear hb2 hown hown2 hbr bk hk2 hp2 hpr hc2 r3 r4 x0 x1 x2 x3 x4 z1 z2 z3 z4 hB2 ho2 ho1 hEB hGL hvl2
        go_wp2_with fail
        go_region_held3 (fun w' => (w'.cell? ⟨wr.heap.size, 0, none⟩ = some (.int .i64 a[k].time) ∧ w'.cell? ⟨wr.heap.size, 1, none⟩ = some (.int .i64 a[k].msg) ∧ w'.cell? ⟨wr.heap.size, 2, none⟩ = some (.int .i64 a[k].part)) ∧
            w'.cell? ⟨b2, off2 + j * 5, none⟩ = some (.int .i64 b[j].time))
          (first
            | go_keep
            | (go_split_ands
               (repeat' apply And.intro) <;> (first | (rw [hgrow.cell_far _ (by simp; omega) (Ne.symm ag)]; first | assumption | (rw [World.cell?_alloc_lt _ _ _ (by simp; omega)]; assumption)) | (rw [hgrow.cell_far _ (by simp; omega) (Ne.symm ab)]; first | assumption | (rw [World.cell?_alloc_lt _ _ _ (by simp; omega)]; assumption)))))
          ((refine step_append_lies _ (by rfl) _ _ _ (by rfl) w.heap.size 105 i0 _ 4 32 Try.underlying101 hi0 hz0 hz1 hz2 rfl (by omega) (.slice Av GL.length cv) GL.length GL.flatten (by rfl) ((ho11.alloc _).drew)
              ⟨w2.heap.size, 0, none⟩ 1 1 [.int .i64 a[k].msg, .int .i64 a[k].part, .int .i64 (a[k].time + p), .int .i64 (b[j].time - q)] (by rfl) (by rfl) (World.news_of_block (cs := #[.int .i64 a[k].msg, .int .i64 a[k].part, .int .i64 (a[k].time + p), .int .i64 (b[j].time - q)]) (t := 105) (fr := (0, 0)) (heap_alloc_new w2 _)) (by simp [Value.oneCell'])
              (by omega) (by unfold maxLen; omega) (by omega) (by simp; omega) (w2.heap.size + 1) (by simp) ?_; intro gg cap w3 hown3 hgrow hat hlt3))
        have hO3 : OwnR w3 w.heap.size w3.heap.size 105 4 (.slice (some ⟨gg, 0, none⟩) (GL.length + 1) cap) (GL ++ [[.int .i64 a[k].msg, .int .i64 a[k].part, .int .i64 (a[k].time + p), .int .i64 (b[j].time - q)]]) := OwnR.of_snoc hown3 ho12.out rfl
        have hbx : Below w.heap.size w2 w3 := (((Below.refl w.heap.size w2).alloc (by omega) (.cells #[.int .i64 a[k].msg, .int .i64 a[k].part, .int .i64 (a[k].time + p), .int .i64 (b[j].time - q)] 105)).drew).grown hgrow (by simp; omega) (fun q hq => (hvl.out q hq).1)
        have s3 := hbx.size
        have hx2 := (ho2H.out.alloc (.cells #[.int .i64 a[k].msg, .int .i64 a[k].part, .int .i64 (a[k].time + p), .int .i64 (b[j].time - q)] 105)).drew.keepT (ho1H.out.alloc (.cells #[.int .i64 a[k].msg, .int .i64 a[k].part, .int .i64 (a[k].time + p), .int .i64 (b[j].time - q)] 105)).drew hgrow (by decide)
        have hx3 : PrRows w3 w.heap.size (tgTo a b k) rows := PrRows.grown (w := (w2.alloc (.cells #[.int .i64 a[k].msg, .int .i64 a[k].part, .int .i64 (a[k].time + p), .int .i64 (b[j].time - q)] 105)).drew) (hp2H.out.alloc _) (ho1H.out.alloc (.cells #[.int .i64 a[k].msg, .int .i64 a[k].part, .int .i64 (a[k].time + p), .int .i64 (b[j].time - q)] 105)).drew hgrow (by decide)
        have hB3 := hB2H.out.trans hbx
        have hOH := Lib.hid hO3
        have hx3H := Lib.hid hx3
        have hx2a := hx2.alloc (.cells #[.int .i64 (k : Int), .int .i64 (j : Int)] 3)
        have hx2b := (hx2.alloc (.cells #[.int .i64 (k : Int), .int .i64 (j : Int)] 3)).alloc (.cells #[.slice (some ⟨w3.heap.size, 0, none⟩) 2 2] 37)
        have hx2H := Lib.hid hx2b
        have hbk : Bk ((w3.alloc (.cells #[.int .i64 (k : Int), .int .i64 (j : Int)] 3)).alloc (.cells #[.slice (some ⟨w3.heap.size, 0, none⟩) 2 2] 37)) (w3.heap.size + 1) 37 #[.slice (some ⟨w3.heap.size, 0, none⟩) 2 2] := Bk.new2 w3 _ _ _
        have hcell : ∀ i (hi : i < [[Value.slice (some ⟨w3.heap.size, 0, none⟩) 2 2]].length) u, u < 1 → ((w3.alloc (.cells #[.int .i64 (k : Int), .int .i64 (j : Int)] 3)).alloc (.cells #[.slice (some ⟨w3.heap.size, 0, none⟩) 2 2] 37)).cell? ⟨w3.heap.size + 1, i * 1 + u, none⟩ = ([[Value.slice (some ⟨w3.heap.size, 0, none⟩) 2 2]][i])[u]? := fun i hi u hu => by
          obtain rfl : i = 0 := by simpa using hi
          obtain rfl : u = 0 := by omega
          exact hbk.cell 0
        have hcH := Lib.hid hcell
        clear hO3 hbx hown3 hgrow hat y0 y1 y2 z0 hw1 hw2 hw1' hw2' hx2 hx2a hx2b hx3 hbk hcell ho11
        go_wp2_with (at_builtin; refine wp_append_rows rfl (.tmp 49) (.tmp 53) rfl Try.underlying68 slRInfo rfl (by omega) rfl hx2H.out (news := [[.slice (some ⟨w3.heap.size, 0, none⟩) 2 2]]) (by rfl) hcH.out (by simp) (by simp [Value.oneCell']) (by simp; omega) (by omega) (by simp; omega) ?_; intro v4 w4 ho4 hg4 hb4 hat4)
        have s4 := hb4.size
        have hG4 := ((hOH.out.alloc (.cells #[.int .i64 (k : Int), .int .i64 (j : Int)] 3)).alloc (.cells #[.slice (some ⟨w3.heap.size, 0, none⟩) 2 2] 37)).keepT hx2H.out hg4 (by decide)
        have hP4 : PrRows w4 w.heap.size (tgTo a b k ++ [(k, j)]) (rows ++ [[.slice (some ⟨w3.heap.size, 0, none⟩) 2 2]]) := PrRows.grown (w := (w3.alloc (.cells #[.int .i64 (k : Int), .int .i64 (j : Int)] 3)).alloc (.cells #[.slice (some ⟨w3.heap.size, 0, none⟩) 2 2] 37)) (((hx3H.out.alloc _).alloc _).snoc (x := (k, j)) (by omega) ((Bk.new w3 _ _).alloc _)) hx2H.out hg4 (by decide)
        have hB4 := (((hB3.alloc (by omega) (.cells #[.int .i64 (k : Int), .int .i64 (j : Int)] 3)).alloc (by simp; omega) (.cells #[.slice (some ⟨w3.heap.size, 0, none⟩) 2 2] 37))).trans hb4
        have hG5 := Lib.hid (hG4.mono (Nat.le_refl _) (show w3.heap.size ≤ w4.heap.size by have := s4; simp at this; omega))
        have hgl : (tgTo a b (k + 1)).map (gapRow a b p q) = GL ++ [[.int .i64 a[k].msg, .int .i64 a[k].part, .int .i64 (a[k].time + p), .int .i64 (b[j].time - q)]] := by
          rw [hst.out, List.map_append, ← hGLH.out, List.map_cons, List.map_nil, hgH.out]
        have hglH := Lib.hid hgl
        have hP4H := Lib.hid hP4
        have hB4H := Lib.hid hB4
        have ho4H := Lib.hid ho4
        clear hG4 hgl hP4 hB4 ho4 hb4 hg4 hB3 s4
        go_roundw
        case rel => exact ⟨k + 1, _, by omega, by go_num, by rw [hglH.out]; exact hG5.out.lenR (by simp), ho4H.out, by rw [hst.out]; exact hP4H.out, hB4H.out⟩
        case measure => simp [intOf]; omega
    · obtain rfl : k = a.length := by omega
      have ho := Lib.hid hown
      have ho2 := Lib.hid hown2
      have hp := Lib.hid hpr
      clear hown hown2 hpr
      go_wp2
      go_ret2
      exact ⟨_, _, rows, rfl, ho.out, ho2.out, hp.out, hbr⟩
end Go.Proofs.Ytbagliaelolhcaa
