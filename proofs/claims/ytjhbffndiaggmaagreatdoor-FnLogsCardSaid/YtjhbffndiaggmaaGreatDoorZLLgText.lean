/-
  Contracts of LogText, in the reference and in the program. The conditions are bounds on lengths, and the library's table.
-/
import Derived.Test.YtjhbffndiaggmaaGreatDoorZLJoinN
import Derived.Test.YtjhbffndiaggmaaGreatDoorBL22
import Derived.Test.YtjhbffndiaggmaaGreatDoorBL24
import Derived.Test.YtjhbffndiaggmaaGreatDoorZLBuild
import Derived.Deep.RegionHeld3
namespace Go.Proofs.YtjhbffndiaggmaaGreatDoor
open Go.RowKit Go.ChangeShapes Go.WideShapes
set_option linter.unusedVariables false
set_option linter.unusedSimpArgs false

def p1 (e : Ent) : List UInt8 := joinS [e.time, e.msg, e.part] [32]
def p2 (e : Ent) : List UInt8 := p1 e ++ [32, 58, 32]
def p3 (e : Ent) : List UInt8 := p2 e ++ joinS e.seen [32]
def p4 (e : Ent) : List UInt8 := p3 e ++ [32, 58, 32]
def p5 (e : Ent) : List UInt8 := p4 e ++ joinS e.shown [32]
def p6 (e : Ent) : List UInt8 := p5 e ++ [10]
def ltTo (es : List Ent) (k : Nat) : List UInt8 := ((es.take k).map p6).flatten
theorem ltTo_zero (es : List Ent) : ltTo es 0 = [] := rfl
theorem ltTo_succ {es : List Ent} {k : Nat} (h : k < es.length) : ltTo es (k + 1) = ltTo es k ++ p6 es[k] := by
  unfold ltTo; rw [List.take_succ_eq_append_getElem h, List.map_append, List.flatten_append]; simp
def ltL (es : List Ent) : List UInt8 := if logB es then ltTo es es.length else []
theorem ltL_no {es : List Ent} (h : logB es = false) : ltL es = [] := by simp [ltL, h]
theorem ltL_yes {es : List Ent} (h : logB es = true) : ltL es = ltTo es es.length := by simp [ltL, h]
theorem sg_vals {zs : List Int} (h : sgB zs = true) : zs.length ≤ 1000 ∧ ∀ n ∈ zs, 0 ≤ n ∧ n ≤ 1000000000000000000 := by
  refine ⟨sg_len h, fun n hn => ?_⟩
  simp only [sgB, Bool.and_eq_true] at h
  obtain ⟨k, hk, rfl⟩ := List.getElem_of_mem hn
  have := allB_iff.1 h.2 k hk
  omega
theorem p1_len {e : Ent} (h1 : 0 ≤ e.time ∧ e.time ≤ 10000) (h2 : 1 ≤ e.msg ∧ e.msg ≤ 999) (h3 : 0 ≤ e.part ∧ e.part ≤ 8) : (p1 e).length ≤ 60 :=
  joinS_len (l := [e.time, e.msg, e.part]) (sep := [32]) (by intro n hn; simp at hn; omega) (by simp)
/-- what an entry of a good log is in the text -/
structure EnT (e : Ent) : Prop where
  t : 0 ≤ e.time ∧ e.time ≤ 10000
  m : 1 ≤ e.msg ∧ e.msg ≤ 999
  p : 0 ≤ e.part ∧ e.part ≤ 8
  sn : e.seen.length ≤ 1000 ∧ ∀ n ∈ e.seen, 0 ≤ n ∧ n ≤ 1000000000000000000
  sh : e.shown.length ≤ 1000 ∧ ∀ n ∈ e.shown, 0 ≤ n ∧ n ≤ 1000000000000000000
theorem ent_text {es : List Ent} (h : logB es = true) (k : Nat) (hk : k < es.length) : EnT es[k] := by
  obtain ⟨h1, h2, h3, h4, h5, _⟩ := log_at h k hk
  exact ⟨h1, h2, h3, sg_vals h4, sg_vals h5⟩
theorem EnT.lens {e : Ent} (h : EnT e) : (p1 e).length ≤ 60 ∧ (joinS e.seen [32]).length ≤ 20000 ∧ (joinS e.shown [32]).length ≤ 20000 := by
  refine ⟨p1_len h.t h.m h.p, ?_, ?_⟩
  · have := joinS_len (l := e.seen) (sep := [32]) (fun n hn => by have := h.sn.2 n hn; omega) (by simp)
    have := h.sn.1; omega
  · have := joinS_len (l := e.shown) (sep := [32]) (fun n hn => by have := h.sh.2 n hn; omega) (by simp)
    have := h.sh.1; omega
theorem p6_len {e : Ent} (h : EnT e) : (p6 e).length ≤ 41000 := by
  obtain ⟨h1, h2, h3⟩ := h.lens
  simp only [p6, p5, p4, p3, p2, List.length_append, List.length_cons, List.length_nil]; omega
theorem ltTo_len {es : List Ent} (h : logB es = true) (k : Nat) (hk : k ≤ es.length) : (ltTo es k).length ≤ 41000 * k := by
  induction k with
  | zero => simp [ltTo_zero]
  | succ k ih =>
    have h1 := ih (by omega)
    have h2 := p6_len (ent_text h k (by omega))
    rw [ltTo_succ (by omega), List.length_append]; omega
/-- the sums of one line, as the walks form them -/
structure Sums (s : List UInt8) (e : Ent) : Prop where
  j1 : str (p1 e) ++ { data := #[32, 58, 32] } = str (p2 e)
  j2 : str (p2 e) ++ str (joinS e.seen [32]) = str (p3 e)
  j3 : str (p3 e) ++ { data := #[32, 58, 32] } = str (p4 e)
  j4 : str (p4 e) ++ str (joinS e.shown [32]) = str (p5 e)
  j5 : str (p5 e) ++ { data := #[10] } = str (p6 e)
  j6 : str s ++ str (p6 e) = str (s ++ p6 e)
  n1 : ¬ (9223372036854775807 < (str (p1 e)).size + 3)
  n2 : ¬ (9223372036854775807 < (str (p2 e)).size + (str (joinS e.seen [32])).size)
  n3 : ¬ (9223372036854775807 < (str (p3 e)).size + 3)
  n4 : ¬ (9223372036854775807 < (str (p4 e)).size + (str (joinS e.shown [32])).size)
  n5 : ¬ (9223372036854775807 < (str (p5 e)).size + 1)
  n6 : ¬ (9223372036854775807 < (str s).size + (str (p6 e)).size)
theorem sums (s : List UInt8) {e : Ent} (h : EnT e) (hs : s.length ≤ 10000000) : Sums s e := by
  obtain ⟨h1, h2, h3⟩ := h.lens
  have e2 : (p2 e).length = (p1 e).length + 3 := by simp [p2]
  have e3 : (p3 e).length = (p2 e).length + (joinS e.seen [32]).length := by simp [p3]
  have e4 : (p4 e).length = (p3 e).length + 3 := by simp [p4]
  have e5 : (p5 e).length = (p4 e).length + (joinS e.shown [32]).length := by simp [p5]
  have e6 : (p6 e).length = (p5 e).length + 1 := by simp [p6]
  refine ⟨?_, ?_, ?_, ?_, ?_, ?_, ?_, ?_, ?_, ?_, ?_, ?_⟩
  · show str (p1 e) ++ str [32, 58, 32] = _; rw [str_append]; rfl
  · rw [str_append]; rfl
  · show str (p3 e) ++ str [32, 58, 32] = _; rw [str_append]; rfl
  · rw [str_append]; rfl
  · show str (p5 e) ++ str [10] = _; rw [str_append]; rfl
  · rw [str_append]
  all_goals (simp only [str_size]; omega)
theorem rd3 {W : World} {g : Nat} (hg : W.heap.size = g) (a b c : Int) : Rd (W.alloc (.cells #[.int .i64 a, .int .i64 b, .int .i64 c] 3)).drew 0 (g + 1) (some ⟨g, 0, none⟩) [a, b, c] := by
  subst hg
  exact (Rd.one W #[.int .i64 a, .int .i64 b, .int .i64 c] 3 [a, b, c] rfl).mono (Nat.zero_le _) (Nat.le_refl _)
theorem sg_three {e : Ent} (h : EnT e) (A : Option Addr) (cc : Nat) {lo hi : Nat} (w : World) (hr : Rd w lo hi A [e.time, e.msg, e.part]) :
    Calls Tryz.prog 160 #[.slice A 3 cc] w fun r w' => r = .returned (.string (str (p1 e))) ∧ Below w.heap.size w w' :=
  sgLine_any [e.time, e.msg, e.part] A cc w hr (by simp) (by have h1 := h.t; have h2 := h.m; have h3 := h.p; intro n hn; simp at hn; omega)
set_option maxRecDepth 100000 in
set_option maxHeartbeats 4000000 in
theorem lgText_any (es : List Ent) (A : Option Addr) (c : Nat) {lo hi : Nat} (w : World) (hr0 : RdE w lo hi A es) (hg : logB es = true) :
    Calls Tryz.prog 129 #[.slice A es.length c] w fun e w' => e = .returned (.string (str (ltTo es es.length))) ∧ Below w.heap.size w w' := by
  have hr := hr0.std
  have hgH := Lib.hid hg
  have hel := log_len hg
  clear hr0 hg
  go_enter Tryz.func129, Tryz.ntmps129
  go_wp2_with fail
  go_loopw [3, 5, 8] (fun s _ i wr => ∃ k : Nat, k ≤ es.length ∧ i = .int .i64 k ∧ s = .string (str (ltTo es k)) ∧ Below w.heap.size w wr) (fun _ _ i _ => es.length - (intOf i).toNat)
  case atStart => exact ⟨0, Nat.zero_le _, rfl, rfl, Below.refl _ _⟩
  case round =>
    obtain ⟨k, hk, rfl, rfl, hbr⟩ := hrel
    have hszr := hbr.size
    by_cases hlt : k < es.length
    · obtain ⟨b0, off, rfl, _, hb0, hc⟩ := (hr.st hbr) (by omega)
      obtain ⟨A1, c1, A2, c2, x0, x1, x2, x3, x4, r1, r2⟩ := hc k hlt
      have hE := Lib.hid (ent_text hgH.out k hlt)
      have hlen := ltTo_len hgH.out k hk
      obtain ⟨j1, j2, j3, j4, j5, j6, n1, n2, n3, n4, n5, n6⟩ := sums (ltTo es k) hE.out (by omega)
      rw [← ltTo_succ hlt] at j6
      obtain ⟨W, hW⟩ : ∃ W, W = wr.alloc (.cells #[.int .i64 es[k].time, .int .i64 es[k].msg, .int .i64 es[k].part, .slice A1 es[k].seen.length c1, .slice A2 es[k].shown.length c2] 74) := ⟨_, rfl⟩
      have sW : W.heap.size = wr.heap.size + 1 := by rw [hW]; simp
      have hbk : Bk W wr.heap.size 74 #[.int .i64 es[k].time, .int .i64 es[k].msg, .int .i64 es[k].part, .slice A1 es[k].seen.length c1, .slice A2 es[k].shown.length c2] := by rw [hW]; exact Bk.new wr _ _
      have hBW : Below w.heap.size w W := by rw [hW]; exact hbr.alloc hszr _
      have ra : Rd W 0 w.heap.size A1 es[k].seen := by rw [hW]; exact r1.alloc _
      have rb : Rd W 0 w.heap.size A2 es[k].shown := by rw [hW]; exact r2.alloc _
      have y0 := hbk.cell 0
      have y1 := hbk.cell 1
      have y2 := hbk.cell 2
      have y3 := hbk.cell 3
      have y4 := hbk.cell 4
      simp at y0 y1 y2 y3 y4
      clear hc r1 r2 hbr
      go_wp2_with fail
      rw [← hW]
      clear hW x0 x1 x2 x3 x4
      have al : ∀ o x, (W.alloc o).drew.cell? ⟨wr.heap.size, x, none⟩ = W.cell? ⟨wr.heap.size, x, none⟩ := fun o x => World.cell?_alloc_lt W o _ (by show wr.heap.size < W.heap.size; omega)
      have alH := Lib.hid al
      clear al
      go_region_held3 (fun w' => w'.cell? ⟨wr.heap.size, 0, none⟩ = some (.int .i64 es[k].time) ∧ w'.cell? ⟨wr.heap.size, 1, none⟩ = some (.int .i64 es[k].msg) ∧ w'.cell? ⟨wr.heap.size, 2, none⟩ = some (.int .i64 es[k].part) ∧ w'.cell? ⟨wr.heap.size, 3, none⟩ = some (.slice A1 es[k].seen.length c1) ∧ w'.cell? ⟨wr.heap.size, 4, none⟩ = some (.slice A2 es[k].shown.length c2))
        (first | ((try go_split_ands); (try dsimp only); (repeat' apply And.intro) <;> (first | with_reducible assumption | exact y0 | exact y1 | exact y2 | exact y3 | exact y4 | exact (alH.out _ _).trans y0 | exact (alH.out _ _).trans y1 | exact (alH.out _ _).trans y2 | exact (alH.out _ _).trans y3 | exact (alH.out _ _).trans y4 | ((with_reducible refine (hc6 _ _ ?_).trans ?_) <;> first | with_reducible assumption | omega | exact y0 | exact y1 | exact y2 | exact y3 | exact y4 | exact (alH.out _ _).trans y0 | exact (alH.out _ _).trans y1 | exact (alH.out _ _).trans y2 | exact (alH.out _ _).trans y3 | exact (alH.out _ _).trans y4 | (simp <;> omega)) | ((with_reducible refine (hc5 _ _ ?_).trans ?_) <;> first | with_reducible assumption | omega | exact y0 | exact y1 | exact y2 | exact y3 | exact y4 | exact (alH.out _ _).trans y0 | exact (alH.out _ _).trans y1 | exact (alH.out _ _).trans y2 | exact (alH.out _ _).trans y3 | exact (alH.out _ _).trans y4 | (simp <;> omega)) | ((with_reducible refine (hc4 _ _ ?_).trans ?_) <;> first | with_reducible assumption | omega | exact y0 | exact y1 | exact y2 | exact y3 | exact y4 | exact (alH.out _ _).trans y0 | exact (alH.out _ _).trans y1 | exact (alH.out _ _).trans y2 | exact (alH.out _ _).trans y3 | exact (alH.out _ _).trans y4 | (simp <;> omega)))))
        (first
          | (go_at_call 160; ((with_reducible refine (sg_three hE.out _ _ _ (rd3 sW _ _ _)).mono ?_); rintro e w4 ⟨rfl, hb4⟩; (have hc4 := (bcell hb4).1); (have s4 : wr.heap.size + 2 ≤ w4.heap.size := by have h1 := hb4.size; simp at h1; omega); (have ra4 := ((ra.alloc _).drew).st hb4); (have rb4 := ((rb.alloc _).drew).st hb4); (have hB4 := ((hBW.alloc (by omega) _).drew).trans (hb4.mono (by simp; omega)))))
          | (go_at_call 160; ((with_reducible refine (sgLine_any es[k].seen A1 c1 _ ra4 (by have := hE.out.sn.1; omega) hE.out.sn.2).mono ?_); rintro e w5 ⟨rfl, hb5⟩; (have hc5 := (bcell hb5).1); (have s5 : w4.heap.size ≤ w5.heap.size := hb5.size); (have rb5 := rb4.st hb5); (have hB5 := hB4.trans (hb5.mono (by omega)))))
          | (go_at_call 160; ((with_reducible refine (sgLine_any es[k].shown A2 c2 _ rb5 (by have := hE.out.sh.1; omega) hE.out.sh.2).mono ?_); rintro e w6 ⟨rfl, hb6⟩; (have hc6 := (bcell hb6).1); (have s6 : w5.heap.size ≤ w6.heap.size := hb6.size); (have hB6 := hB5.trans (hb6.mono (by omega))))))
      have hBH := Lib.hid hB6
      clear hb4 hb5 hb6 hc4 hc5 hc6 hB4 hB5 hB6 hBW y0 y1 y2 y3 y4
      go_wp2_with fail
      go_roundw
      case rel => exact ⟨k + 1, by omega, by go_num, rfl, hBH.out⟩
      case measure => simp [intOf]; omega
    · obtain rfl : k = es.length := by omega
      go_wp2_with fail
      go_ret
      exact ⟨rfl, hbr⟩
set_option maxRecDepth 100000 in
theorem sLogText_any (es : List Ent) (A : Option Addr) (c : Nat) {lo hi : Nat} (w : World) (hr : RdE w lo hi A es) (hl : eszL es ≤ 1048576) :
    Calls Tryz.prog 53 #[.slice A es.length c] w fun e w' => e = .returned (.tuple #[.string (str (ltL es)), .bool (logB es)]) ∧ Below w.heap.size w w' := by
  cases q : logB es with
  | false =>
    rw [ltL_no q]
    go_enter Tryz.func53, Tryz.ntmps53
    go_wp2_with (go_at_call 128; (with_reducible refine (lgGood_v es A c _ hr hl _ q).mono ?_); rintro e w1 ⟨rfl, hb1⟩)
    go_ret2
    exact ⟨rfl, hb1⟩
  | true =>
    rw [ltL_yes q]
    have qH := Lib.hid q
    go_enter Tryz.func53, Tryz.ntmps53
    go_wp2_with fail
    (with_reducible refine (lgGood_v es A c _ hr hl _ q).mono ?_)
    rintro e w1 ⟨rfl, hb1⟩
    have hr1 := hr.st hb1
    clear q
    go_wp2_with fail
    (with_reducible refine (lgText_any es A c _ hr1 qH.out).mono ?_)
    rintro e w2 ⟨rfl, hb2⟩
    have hB := hb1.trans (hb2.mono hb1.size)
    go_wp2_with fail
    go_ret2
    exact ⟨rfl, hB⟩
theorem jn_three {e : Ent} (h : EnT e) (A : Option Addr) (cc : Nat) {lo hi : Nat} (w : World) (hr : Rd w lo hi A [e.time, e.msg, e.part]) (hp : Pow w) :
    Calls Tryz.prog 120 #[.slice A 3 cc, .string { data := #[32] }] w fun r w' => r = .returned (.string (str (p1 e))) ∧ Below w.heap.size w w' :=
  joinNumbers_any [e.time, e.msg, e.part] A cc [32] w hr (by simp) (by have h1 := h.t; have h2 := h.m; have h3 := h.p; intro n hn; simp at hn; omega) hp (by simp)
theorem jn_sp (l : List Int) (A : Option Addr) (c : Nat) {lo hi : Nat} (w : World) (hr : Rd w lo hi A l) (hl : l.length ≤ 1000 ∧ ∀ n ∈ l, 0 ≤ n ∧ n ≤ 1000000000000000000) (hp : Pow w) :
    Calls Tryz.prog 120 #[.slice A l.length c, .string { data := #[32] }] w fun e w' => e = .returned (.string (str (joinS l [32]))) ∧ Below w.heap.size w w' :=
  joinNumbers_any l A c [32] w hr (by omega) hl.2 hp (by simp)
/-- a line written: what the builder holds then, and that the block of the entry stands -/
theorem write_line {es : List Ent} {k : Nat} (hlt : k < es.length) (g u : Nat) (cs : Array Value) (w : World) (h : Lib.IsBuilder 126 5 g g (Lib.byteCells (ltTo es k)) w) (hbk : Bk w u 74 cs) (hug : u ≠ g) (hg : g ≤ w.heap.size) (h1 : (ltTo es k).length ≤ 10000000) (h2 : (p6 es[k]).length ≤ 41000) :
    Calls Tryz.prog 126 #[.pointer (some ⟨g, 0, none⟩), .string (str (p6 es[k]))] w fun e w' => (∃ v, e = .returned v) ∧ Lib.IsBuilder 126 5 g g (Lib.byteCells (ltTo es (k + 1))) w' ∧ Below g w w' ∧ ∀ o, w'.cell? ⟨u, o, none⟩ = w.cell? ⟨u, o, none⟩ := by
  refine (WriteString_b g g _ (str (p6 es[k])) w h (by rw [Lib.byteCells_length, str_size]; omega) hg).mono ?_
  rintro e w' ⟨h3, h4, h5, h6⟩
  refine ⟨h3, ?_, h5, fun o => World.cell?_of_block (w := w) (h6 u hbk.lt hug (fun cs' fr hx => ?_))⟩
  · rw [ltTo_succ hlt, Lib.byteCells_append, ← strCells_str (p6 es[k])]; exact h4
  · have := (Option.some.inj (hbk.symm.trans hx))
    injection this with _ ht
    exact absurd ht (by decide)
set_option maxRecDepth 100000 in
set_option maxHeartbeats 4000000 in
theorem iLogText_any (es : List Ent) (A : Option Addr) (c : Nat) {lo hi : Nat} (w : World) (hr0 : RdE w lo hi A es) (hl : eszL es ≤ 1048576) (hcap : es.length ≤ c) (hP : Pow w) :
    Calls Tryz.prog 52 #[.slice A es.length c] w fun e w' => e = .returned (.tuple #[.string (str (ltL es)), .bool (logB es)]) ∧ Below w.heap.size w w' := by
  have hr := hr0.std
  clear hr0
  cases q : logB es with
  | false =>
    rw [ltL_no q]
    go_enter Tryz.func52, Tryz.ntmps52
    go_wp2_with (go_at_call 56; (with_reducible refine (iIsLog_v es A c _ hr hl hcap _ q).mono ?_); rintro e w1 ⟨rfl, hb1⟩)
    go_ret2
    exact ⟨rfl, hb1⟩
  | true =>
    rw [ltL_yes q]
    have hgH := Lib.hid q
    have hel := log_len q
    go_enter Tryz.func52, Tryz.ntmps52
    go_wp2_with fail
    (with_reducible refine (iIsLog_v es A c _ hr hl hcap _ q).mono ?_)
    rintro e w1 ⟨rfl, hb1⟩
    have s1 := hb1.size
    obtain ⟨W1, hW1⟩ : ∃ W1, W1 = w1.alloc (.cells #[.pointer none, .slice none 0 0] 126) := ⟨_, rfl⟩
    have hBu : Lib.IsBuilder 126 5 w1.heap.size w1.heap.size (Lib.byteCells (ltTo es 0)) W1 := by rw [hW1]; exact Lib.fresh_isBuilder _ _ w1
    have hB1 : Below w.heap.size w W1 := by rw [hW1]; exact hb1.alloc s1 _
    have sW1 : W1.heap.size = w1.heap.size + 1 := by rw [hW1]; simp
    have hr1 := hr.st hb1
    have hPl := hP.lt
    clear q hb1
    go_wp2_with fail
    rw [← hW1]
    clear hW1
    go_wp2_with fail
    go_loopw [6, 12] (fun _ i wr => ∃ k : Nat, k ≤ es.length ∧ i = .int .i64 k ∧ Lib.IsBuilder 126 5 w1.heap.size w1.heap.size (Lib.byteCells (ltTo es k)) wr ∧ w1.heap.size < wr.heap.size ∧ Below w.heap.size w wr) (fun _ i _ => es.length - (intOf i).toNat)
    case atStart => exact ⟨0, Nat.zero_le _, rfl, hBu, by omega, hB1⟩
    case round =>
      obtain ⟨k, hk, rfl, hbu, hgr, hbr⟩ := hrel
      clear hBu hB1
      have hszr := hbr.size
      by_cases hlt : k < es.length
      · obtain ⟨b0, off, rfl, _, hb0, hc⟩ := (hr.st hbr) (by omega)
        obtain ⟨A1, c1, A2, c2, x0, x1, x2, x3, x4, r1, r2⟩ := hc k hlt
        have hE := Lib.hid (ent_text hgH.out k hlt)
        have hlen := ltTo_len hgH.out k hk
        have hp6 := p6_len hE.out
        obtain ⟨j1, j2, j3, j4, j5, -, n1, n2, n3, n4, n5, -⟩ := sums (ltTo es k) hE.out (by omega)
        obtain ⟨W, hW⟩ : ∃ W, W = wr.alloc (.cells #[.int .i64 es[k].time, .int .i64 es[k].msg, .int .i64 es[k].part, .slice A1 es[k].seen.length c1, .slice A2 es[k].shown.length c2] 74) := ⟨_, rfl⟩
        have sW : W.heap.size = wr.heap.size + 1 := by rw [hW]; simp
        have hbk : Bk W wr.heap.size 74 #[.int .i64 es[k].time, .int .i64 es[k].msg, .int .i64 es[k].part, .slice A1 es[k].seen.length c1, .slice A2 es[k].shown.length c2] := by rw [hW]; exact Bk.new wr _ _
        have hBW : Below w.heap.size w W := by rw [hW]; exact hbr.alloc hszr _
        have hbuW := isBuilder_st hbu (show Below wr.heap.size wr W by rw [hW]; exact (Below.refl _ _).alloc (Nat.le_refl _) _)
        have hPW := hP.below hBW hPl
        have ra : Rd W 0 w.heap.size A1 es[k].seen := by rw [hW]; exact r1.alloc _
        have rb : Rd W 0 w.heap.size A2 es[k].shown := by rw [hW]; exact r2.alloc _
        have y0 := hbk.cell 0
        have y1 := hbk.cell 1
        have y2 := hbk.cell 2
        have y3 := hbk.cell 3
        have y4 := hbk.cell 4
        simp at y0 y1 y2 y3 y4
        clear hc r1 r2 hbr hbu
        go_wp2_with fail
        rw [← hW]
        clear hW x0 x1 x2 x3 x4
        have al : ∀ o x, (W.alloc o).drew.cell? ⟨wr.heap.size, x, none⟩ = W.cell? ⟨wr.heap.size, x, none⟩ := fun o x => World.cell?_alloc_lt W o _ (by show wr.heap.size < W.heap.size; omega)
        have alH := Lib.hid al
        clear al
        go_region_held3 (fun w' => w'.cell? ⟨wr.heap.size, 0, none⟩ = some (.int .i64 es[k].time) ∧ w'.cell? ⟨wr.heap.size, 1, none⟩ = some (.int .i64 es[k].msg) ∧ w'.cell? ⟨wr.heap.size, 2, none⟩ = some (.int .i64 es[k].part) ∧ w'.cell? ⟨wr.heap.size, 3, none⟩ = some (.slice A1 es[k].seen.length c1) ∧ w'.cell? ⟨wr.heap.size, 4, none⟩ = some (.slice A2 es[k].shown.length c2))
          (first | ((try go_split_ands); (try dsimp only); (repeat' apply And.intro) <;> (first | with_reducible assumption | exact y0 | exact y1 | exact y2 | exact y3 | exact y4 | exact (alH.out _ _).trans y0 | exact (alH.out _ _).trans y1 | exact (alH.out _ _).trans y2 | exact (alH.out _ _).trans y3 | exact (alH.out _ _).trans y4 | ((with_reducible refine (hc7 _).trans ?_) <;> first | with_reducible assumption) | ((with_reducible refine (hc6 _ _ ?_).trans ?_) <;> first | with_reducible assumption | omega | exact y0 | exact y1 | exact y2 | exact y3 | exact y4 | exact (alH.out _ _).trans y0 | exact (alH.out _ _).trans y1 | exact (alH.out _ _).trans y2 | exact (alH.out _ _).trans y3 | exact (alH.out _ _).trans y4 | (simp <;> omega)) | ((with_reducible refine (hc5 _ _ ?_).trans ?_) <;> first | with_reducible assumption | omega | exact y0 | exact y1 | exact y2 | exact y3 | exact y4 | exact (alH.out _ _).trans y0 | exact (alH.out _ _).trans y1 | exact (alH.out _ _).trans y2 | exact (alH.out _ _).trans y3 | exact (alH.out _ _).trans y4 | (simp <;> omega)) | ((with_reducible refine (hc4 _ _ ?_).trans ?_) <;> first | with_reducible assumption | omega | exact y0 | exact y1 | exact y2 | exact y3 | exact y4 | exact (alH.out _ _).trans y0 | exact (alH.out _ _).trans y1 | exact (alH.out _ _).trans y2 | exact (alH.out _ _).trans y3 | exact (alH.out _ _).trans y4 | (simp <;> omega)))))
          (first
            | (go_at_call 120; ((with_reducible refine (jn_three hE.out _ _ _ (rd3 sW _ _ _) ((hPW.alloc _).drew)).mono ?_); rintro e w4 ⟨rfl, hb4⟩; (have hc4 := (bcell hb4).1); (have s4 : wr.heap.size + 2 ≤ w4.heap.size := by have h1 := hb4.size; simp at h1; omega); (have ra4 := ((ra.alloc _).drew).st hb4); (have rb4 := ((rb.alloc _).drew).st hb4); (have hP4 := ((hPW.alloc _).drew).st hb4); (have hbk4 := ((hbk.alloc _).drew).st hb4); (have hbu4 := isBuilder_st (isBuilder_st hbuW (((Below.refl _ _).alloc (Nat.le_refl _) _).drew)) hb4); (have hB4 := ((hBW.alloc (by omega) _).drew).trans (hb4.mono (by simp; omega)))))
            | (go_at_call 120; ((with_reducible refine (jn_sp es[k].seen A1 c1 _ ra4 hE.out.sn hP4).mono ?_); rintro e w5 ⟨rfl, hb5⟩; (have hc5 := (bcell hb5).1); (have s5 : w4.heap.size ≤ w5.heap.size := hb5.size); (have rb5 := rb4.st hb5); (have hP5 := hP4.st hb5); (have hbk5 := hbk4.st hb5); (have hbu5 := isBuilder_st hbu4 hb5); (have hB5 := hB4.trans (hb5.mono (by omega)))))
            | (go_at_call 120; ((with_reducible refine (jn_sp es[k].shown A2 c2 _ rb5 hE.out.sh hP5).mono ?_); rintro e w6 ⟨rfl, hb6⟩; (have hc6 := (bcell hb6).1); (have s6 : w5.heap.size ≤ w6.heap.size := hb6.size); (have hbk6 := hbk5.st hb6); (have hbu6 := isBuilder_st hbu5 hb6); (have hB6 := hB5.trans (hb6.mono (by omega)))))
            | (go_at_call 126; ((with_reducible refine (write_line hlt _ wr.heap.size _ _ hbu6 hbk6 (by omega) (by omega) (by omega) hp6).mono ?_); rintro e w7 ⟨⟨v7, rfl⟩, hbu7, hb7, hc7⟩; (have s7 : w6.heap.size ≤ w7.heap.size := hb7.size); (have hB7 := hB6.trans (hb7.mono (by omega))))))
        have hBH := Lib.hid hB7
        have huH := Lib.hid hbu7
        have hs7 : w1.heap.size < w7.heap.size := by omega
        clear hb4 hb5 hb6 hb7 hc4 hc5 hc6 hc7 hB4 hB5 hB6 hB7 hBW y0 y1 y2 y3 y4 hbu4 hbu5 hbu6 hbu7 hbuW
        go_wp2_with fail
        go_roundw
        case rel => exact ⟨k + 1, by omega, by go_num, huH.out, hs7, hBH.out⟩
        case measure => simp [intOf]; omega
      · obtain rfl : k = es.length := by omega
        have hszr2 := hbr.size
        go_wp2_with fail
        (with_reducible refine (Tryz.Builder_String_any _ _ _ _ hbu (by omega)).mono ?_)
        rintro e w8 ⟨rfl, hb8⟩
        have hB8 := hbr.trans (hb8.mono (by omega))
        go_wp2_with fail
        go_ret2
        exact ⟨rfl, hB8⟩
end Go.Proofs.YtjhbffndiaggmaaGreatDoor
