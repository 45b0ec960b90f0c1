/-
  Contracts and plain laws that the walk uses, several texts in one. The conditions are named ahead of each.
-/
import Derived.Test.YtjhbffndiaggmaaGreatDoorBKB18
import Derived.Test.YtjhbffndiaggmaaGreatDoorZKBSecret
import Derived.Test.YtjhbffndiaggmaaGreatDoorZKBLawKit
import Derived.Test.YtjhbffndiaggmaaGreatDoorBKB35
import Derived.Test.YtjhbffndiaggmaaGreatDoorBKB1

/-
  The statements' helpers that mark a secret's memory and look whether the marks are held. The conditions are bounds on lengths.
-/
namespace Go.Proofs.YtjhbffndiaggmaaGreatDoor
open Go.RowKit Go.ChangeShapes Go.WideShapes
set_option linter.unusedVariables false
set_option linter.unusedSimpArgs false

theorem out_of_tight {w : World} {lo hi l r : Nat} {u : Value} {s : List Int} (h : Own w lo hi u s) (t : ∀ b, l ≤ b → b < r → u.ownBlock = some b ∧ lo ≤ b ∧ b < hi) {b : Nat} (hb : w.heap.size ≤ b) : b < l ∨ r ≤ b := by
  by_cases h1 : l ≤ b ∧ b < r
  · have := (h.lt b (t b h1.1 h1.2).1).2.2
    omega
  · omega
theorem Own.apart {w w' : World} {lo hi l r : Nat} {u v : Value} {z : List Int} (h2 : Own w lo hi v z) (hd : Dj u v) (t : ∀ b, l ≤ b → b < r → u.ownBlock = some b ∧ lo ≤ b ∧ b < hi) (hf : Fr l r w w') : Own w' lo hi v z :=
  h2.keep fun k hk _ _ h3 => hf.block k h3 (by
    by_cases hx : l ≤ k ∧ k < r
    · obtain ⟨o1, _⟩ := t k hx.1 hx.2
      rcases hd with d | d
      · rw [o1] at d; cases d
      · exact absurd (by rw [o1, hk]) d
    · omega)

theorem dj_turn {p q : Value} (h : Dj p q) : Dj q p := by
  unfold Dj at *
  cases hq : q.ownBlock with
  | none => exact .inl rfl
  | some z =>
    right
    rcases h with h | h
    · rw [h]; simp
    · rw [← hq]; exact fun e => h e.symm
end Go.Proofs.YtjhbffndiaggmaaGreatDoor

/-
  Contracts of UseForLength in the program. The conditions are bounds on lengths.
-/
namespace Go.Proofs.YtjhbffndiaggmaaGreatDoor
open Go.RowKit Go.ChangeShapes Go.WideShapes
set_option linter.unusedVariables false
set_option linter.unusedSimpArgs false

/-- two slices of a call's own that share no block, each in blocks of its own -/
theorem own_pair {w : World} {lo hi l h : Nat} {u v : Value} {s z : List Int} (h1 : Own w lo hi u s) (h2 : Own w l h v z) (hd : Dj u v) :
    ∃ l1 r1 l2 r2, Own w l1 r1 u s ∧ Own w l2 r2 v z ∧ lo ≤ l1 ∧ r1 ≤ max lo hi ∧ l ≤ l2 ∧ r2 ≤ max l h ∧ (r1 ≤ l2 ∨ r2 ≤ l1) := by
  rcases h1.1.2 with ⟨rfl, h0⟩ | ⟨g, cap, cur, rfl, hb, hg, hnc, hcm, hsz, htk⟩
  · obtain rfl : s = [] := List.eq_nil_of_length_eq_zero h0
    by_cases hx : lo ≤ l
    · exact ⟨lo, lo, l, max l h, Own.nil, h2.mono (Nat.le_refl _) (by omega), by omega, by omega, by omega, by omega, .inl hx⟩
    · refine ⟨max lo (max l h), lo, l, max l h, Own.nil, h2.mono (Nat.le_refl _) (by omega), by omega, by omega, by omega, by omega, .inr (by omega)⟩
  · have hg2 := h1.lt g (by simp [Value.ownBlock])
    have k1 : Own w g (g + 1) (.slice (some ⟨g, 0, none⟩) s.length cap) s := ⟨⟨h1.1.1, .inr ⟨g, cap, cur, rfl, Nat.le_refl _, hg, hnc, hcm, hsz, htk⟩⟩, fun k hk => by
      have : g = k := by simpa [Value.ownBlock] using hk
      omega⟩
    rcases h2.1.2 with ⟨rfl, h0⟩ | ⟨g', cap', cur', rfl, hb', hg', hnc', hcm', hsz', htk'⟩
    · obtain rfl : z = [] := List.eq_nil_of_length_eq_zero h0
      refine ⟨g, g + 1, max l (g + 1), l, k1, Own.nil, by omega, by omega, by omega, by omega, .inl (by omega)⟩
    · have hg3 := h2.lt g' (by simp [Value.ownBlock])
      have k2 : Own w g' (g' + 1) (.slice (some ⟨g', 0, none⟩) z.length cap') z := ⟨⟨h2.1.1, .inr ⟨g', cap', cur', rfl, Nat.le_refl _, hg', hnc', hcm', hsz', htk'⟩⟩, fun k hk => by
        have : g' = k := by simpa [Value.ownBlock] using hk
        omega⟩
      have hne : g ≠ g' := by
        rcases hd with d | d
        · simp [Value.ownBlock] at d
        · intro e; subst e; exact d (by simp [Value.ownBlock])
      exact ⟨g, g + 1, g', g' + 1, k1, k2, by omega, by omega, by omega, by omega, by omega⟩
theorem Bk.put3 {w : World} {g : Nat} {t : TypeId} {a b c : Value} (h : Bk w g t #[a, b, c]) (a' b' c' : Value) : Bk (((w.setCell ⟨g, 0, none⟩ a').setCell ⟨g, 1, none⟩ b').setCell ⟨g, 2, none⟩ c') g t #[a', b', c'] := by
  simpa using ((h.set_ 0 a').set_ 1 b').set_ 2 c'
theorem Rd.one_at (w : World) (g : Nat) (hg : w.heap.size = g) (cs : Array Value) (t : TypeId) (zs : List Int) (hcs : cs.toList = zs.map (Value.int .i64)) : Rd (w.alloc (.cells cs t)) 0 (w.alloc (.cells cs t)).heap.size (some ⟨g, 0, none⟩) zs := by
  subst hg; exact (Rd.one w cs t zs hcs).mono (Nat.zero_le _) (by simp)
theorem dj_nil (u : Value) : Dj u (.slice none 0 0) := by
  unfold Dj
  cases hb : u.ownBlock with
  | none => exact .inl rfl
  | some k => right; simp [Value.ownBlock]
theorem Own.grown {w w' : World} {l h : Nat} {u : Value} {s : List Int} {row : Option Nat} (ho : Own w l h u s) (hg : w.grownBy w' row) (hd : ∀ k, u.ownBlock = some k → row ≠ some k) : Own w' l h u s :=
  ho.keep fun k hk _ _ h3 => hg.block k h3 (fun e => hd k hk e.symm)
theorem Dj.row {u v : Value} (hd : Dj u v) : ∀ k, u.ownBlock = some k → v.ownBlock ≠ some k := fun k hk e => by
  rcases hd with d | d
  · rw [hk] at d; cases d
  · exact d (by rw [hk, e])
theorem Dj.grown {u v v' : Value} {n : Nat} (hd : Dj u v) (hat : v'.ownBlock = v.ownBlock ∨ v'.ownBlock = some n) (hu : ∀ k, u.ownBlock = some k → k < n) : Dj u v' := by
  unfold Dj at hd ⊢
  rcases hat with e | e
  · rw [e]; exact hd
  · cases hb : u.ownBlock with
    | none => exact .inl rfl
    | some k =>
      right
      rw [e]
      intro e2
      injection e2 with e2
      have := hu k hb
      omega
/-- what a call returns that makes a key book and pages -/
def TwoOwn (k p : Int) (us ps : List Int) (b : Bool) (w : World) (e : Ending) (w' : World) : Prop :=
  ∃ A c B d l1 r1 l2 r2, e = .returned (.tuple #[.agg #[.int .i64 k, .int .i64 p, .slice A us.length c], .slice B ps.length d, .bool b]) ∧ Own w' l1 r1 (.slice A us.length c) us ∧ Own w' l2 r2 (.slice B ps.length d) ps ∧
    (w.heap.size ≤ l1 ∧ r1 ≤ w'.heap.size ∧ w.heap.size ≤ l2 ∧ r2 ≤ w'.heap.size ∧ (r1 ≤ l2 ∨ r2 ≤ l1)) ∧ us.length ≤ 1048576 ∧ ps.length ≤ 1048576 ∧ Below w.heap.size w w'
theorem TwoOwn.no {w w' : World} {e : Ending} (he : e = .returned (.tuple #[.agg #[.int .i64 0, .int .i64 0, .slice none 0 0], .slice none 0 0, .bool false])) (hB : Below w.heap.size w w') : TwoOwn 0 0 [] [] false w e w' :=
  ⟨none, 0, none, 0, w.heap.size, w.heap.size, w.heap.size, w.heap.size, he, Own.nil, Own.nil, ⟨Nat.le_refl _, hB.size, Nat.le_refl _, hB.size, .inl (Nat.le_refl _)⟩, by simp, by simp, hB⟩
theorem iUseNext_no (k1 p1 : Int) (z1 : List Int) (A1 : Option Addr) (c1 : Nat) {l h : Nat} (w : World) (ho0 : Own w l h (.slice A1 z1.length c1) z1) (hl : z1.length ≤ 1048576) (hb : unB k1 p1 z1 = false) :
    Calls Tryz.prog 12 #[.agg #[.int .i64 k1, .int .i64 p1, .slice A1 z1.length c1]] w fun e w' => ∃ A c, e = .returned (.tuple #[.agg #[.int .i64 0, .int .i64 0, .slice A 0 c], .int .i64 0, .bool false]) ∧ Below w.heap.size w w' := by
  refine (iUseNextPage_any k1 p1 z1 A1 c1 w ho0 hl).mono fun e w' h => ?_
  obtain ⟨h1, h2, h3, h4⟩ := un_no hb
  rw [h1, h2, h3, h4, hb] at h
  obtain ⟨A, c, rfl, ho, _, hB⟩ := h
  exact ⟨A, c, rfl, hB⟩
theorem iUseNext_yes (k1 p1 : Int) (z1 : List Int) (A1 : Option Addr) (c1 : Nat) {l h : Nat} (w : World) (ho0 : Own w l h (.slice A1 z1.length c1) z1) (hl : z1.length ≤ 1048576) (hb : unB k1 p1 z1 = true) (L : List Int) (hL : putL z1 (pfx z1) = L) (v : Int) (hv : (pfx z1 : Int) = v) :
    Calls Tryz.prog 12 #[.agg #[.int .i64 k1, .int .i64 p1, .slice A1 z1.length c1]] w fun e w' => ∃ A c, e = .returned (.tuple #[.agg #[.int .i64 k1, .int .i64 p1, .slice A L.length c], .int .i64 v, .bool true]) ∧ Own w' w.heap.size w'.heap.size (.slice A L.length c) L ∧ Below w.heap.size w w' := by
  refine (iUseNextPage_any k1 p1 z1 A1 c1 w ho0 hl).mono fun e w' h => ?_
  obtain ⟨h1, h2, h3, h4⟩ := un_yes hb
  rw [h1, h2, h3, h4, hb, hL, hv] at h
  obtain ⟨A, c, rfl, ho, _, hB⟩ := h
  exact ⟨A, c, rfl, ho, hB⟩
theorem within_w (n lo hi : Int) (w : World) (v : Bool) (hv : inB n lo hi = v) :
    Calls Tryz.prog 79 #[.int .i64 n, .int .i64 lo, .int .i64 hi] w fun e w' => e = .returned (.bool v) ∧ w = w' := by
  rw [← hv]; exact within_any n lo hi w
end Go.Proofs.YtjhbffndiaggmaaGreatDoor

/-
  Contracts of UseForLength in the reference. The conditions are bounds on lengths.
-/
namespace Go.Proofs.YtjhbffndiaggmaaGreatDoor
open Go.RowKit Go.ChangeShapes Go.WideShapes
set_option linter.unusedVariables false
set_option linter.unusedSimpArgs false

theorem Rd.hi {w : World} {lo hi : Nat} {A : Option Addr} {zs : List Int} (h : Rd w lo hi A zs) : Rd w lo w.heap.size A zs := fun hp => by
  obtain ⟨b, off, e, a1, a2, hc⟩ := h hp
  exact ⟨b, off, e, a1, World.block_lt_of_cell? w _ (hc 0 hp), hc⟩
theorem Rd.grown {w w' : World} {lo hi : Nat} {A : Option Addr} {zs : List Int} {row : Option Nat} (h : Rd w lo hi A zs) (hg : w.grownBy w' row) (hd : ∀ k, row = some k → k < lo ∨ hi ≤ k) : Rd w' lo hi A zs :=
  h.keep fun b o h1 h2 h3 => World.cell?_of_block (a := ⟨b, o, none⟩) (hg.block b h3 (fun e => by have := hd b e.symm; omega))
/-- what a call of the reference returns that makes a key book and pages -/
def TwoRd (k p : Int) (us ps : List Int) (b : Bool) (w : World) (e : Ending) (w' : World) : Prop :=
  ∃ A c B d, e = .returned (.tuple #[.agg #[.int .i64 k, .int .i64 p, .slice A us.length c], .slice B ps.length d, .bool b]) ∧ Rd w' w.heap.size w'.heap.size A us ∧ Rd w' w.heap.size w'.heap.size B ps ∧ us.length ≤ 1048576 ∧ ps.length ≤ 1048576 ∧ Below w.heap.size w w'
theorem TwoRd.no {w w' : World} {e : Ending} (he : e = .returned (.tuple #[.agg #[.int .i64 0, .int .i64 0, .slice none 0 0], .slice none 0 0, .bool false])) (hB : Below w.heap.size w w') : TwoRd 0 0 [] [] false w e w' :=
  ⟨none, 0, none, 0, he, Rd.nil, Rd.nil, by simp, by simp, hB⟩
/-- the same, with the room behind the pages -/
def TwoRdC (k p : Int) (us ps : List Int) (b : Bool) (w : World) (e : Ending) (w' : World) : Prop :=
  ∃ A c B d, e = .returned (.tuple #[.agg #[.int .i64 k, .int .i64 p, .slice A us.length c], .slice B ps.length d, .bool b]) ∧ Rd w' w.heap.size w'.heap.size A us ∧ Rd w' w.heap.size w'.heap.size B ps ∧ us.length ≤ 1048576 ∧ ps.length ≤ 1048576 ∧ (ps.length ≤ d ∧ d ≤ 9223372036854775807) ∧ Below w.heap.size w w'
theorem TwoRdC.no {w w' : World} {e : Ending} (he : e = .returned (.tuple #[.agg #[.int .i64 0, .int .i64 0, .slice none 0 0], .slice none 0 0, .bool false])) (hB : Below w.heap.size w w') : TwoRdC 0 0 [] [] false w e w' :=
  ⟨none, 0, none, 0, he, Rd.nil, Rd.nil, by simp, by simp, by simp, hB⟩
/-- the same, the pages in memory of their own -/
def TwoRdO (k p : Int) (us ps : List Int) (b : Bool) (w : World) (e : Ending) (w' : World) : Prop :=
  ∃ A c B d, e = .returned (.tuple #[.agg #[.int .i64 k, .int .i64 p, .slice A us.length c], .slice B ps.length d, .bool b]) ∧ Rd w' w.heap.size w'.heap.size A us ∧ Own w' w.heap.size w'.heap.size (.slice B ps.length d) ps ∧ us.length ≤ 1048576 ∧ ps.length ≤ 1048576 ∧ (ps.length ≤ d ∧ d ≤ 9223372036854775807) ∧ Below w.heap.size w w'
theorem TwoRdO.no {w w' : World} {e : Ending} (he : e = .returned (.tuple #[.agg #[.int .i64 0, .int .i64 0, .slice none 0 0], .slice none 0 0, .bool false])) (hB : Below w.heap.size w w') : TwoRdO 0 0 [] [] false w e w' :=
  ⟨none, 0, none, 0, he, Rd.nil, Own.nil, by simp, by simp, by simp, hB⟩
theorem kyUse_L (k1 p1 : Int) (z1 : List Int) (A1 : Option Addr) (c1 : Nat) (page : Int) {l h : Nat} (w : World) (hr0 : Rd w l h A1 z1) (hh : h ≤ w.heap.size) (hl : z1.length ≤ 1048576) (hcap : z1.length ≤ c1) (hc2 : c1 ≤ 9223372036854775807) (hA : (A1 = none ∧ c1 = 0) ∨ ∃ b off, A1 = some ⟨b, off, none⟩) (L : List Int) (hL : putL z1 page = L) (hpos : 0 < L.length) :
    Calls Tryz.prog 78 #[.agg #[.int .i64 k1, .int .i64 p1, .slice A1 z1.length c1], .int .i64 page] w fun e w' => ∃ A' c' l' h', e = .returned (.agg #[.int .i64 k1, .int .i64 p1, .slice A' L.length c']) ∧ Rd w' l' h' A' L ∧ ((l' = l ∧ h' = h) ∨ (w.heap.size + 2 ≤ l' ∧ h' = w'.heap.size)) ∧ L.length ≤ c' ∧ c' ≤ 9223372036854775807 ∧ (∃ b off, A' = some ⟨b, off, none⟩) ∧ Below w.heap.size w w' := by
  subst hL
  refine (kyUse_any k1 p1 z1 A1 c1 page w hr0 hh hl hcap hc2 hA).mono fun e w' h => ?_
  obtain ⟨A', c', l', h', he, q, hor, a1, a2, hb⟩ := h
  obtain ⟨b, off, hA', _⟩ := q hpos
  rcases hor with hor | hor
  · exact ⟨A', c', l', h', he, q, .inl hor, a1, a2, ⟨b, off, hA'⟩, hb⟩
  · exact ⟨A', c', l', w'.heap.size, he, q.hi, .inr ⟨hor, rfl⟩, a1, a2, ⟨b, off, hA'⟩, hb⟩
set_option maxHeartbeats 4000000 in
theorem sUseForLength_o (k1 p1 : Int) (z1 : List Int) (A1 : Option Addr) (c1 : Nat) (n : Int) {l h : Nat} (w : World) (hr0 : Rd w l h A1 z1) (hl : z1.length ≤ 1048576) :
    Calls Tryz.prog 187 #[.agg #[.int .i64 k1, .int .i64 p1, .slice A1 z1.length c1], .int .i64 n] w (TwoRdO (ufK k1 p1 z1 n) (ufG k1 p1 z1 n) (ufL k1 p1 z1 n) (ufN k1 p1 z1 n) (ufB k1 p1 z1 n) w) := by
  have hr := hr0.std
  clear hr0
  have bK := (Bk.new w 26 #[.int .i64 k1, .int .i64 p1, .slice A1 z1.length c1]).alloc (.cells #[.int .i64 0, .int .i64 0, .slice none 0 0] 26)
  have bZ := Bk.new2 w (.cells #[.int .i64 k1, .int .i64 p1, .slice A1 z1.length c1] 26) 26 #[.int .i64 0, .int .i64 0, .slice none 0 0]
  have hB := ((Below.refl w.heap.size w).alloc (Nat.le_refl _) (.cells #[.int .i64 k1, .int .i64 p1, .slice A1 z1.length c1] 26)).alloc (by simp) (.cells #[.int .i64 0, .int .i64 0, .slice none 0 0] 26)
  cases q : kbB k1 p1 z1 with
  | false =>
    have hb : ufB k1 p1 z1 n = false := by simp [ufB, q]
    obtain ⟨e1, e2, e3, e4⟩ := uf_no hb
    rw [e1, e2, e3, e4, hb]
    clear e1 e2 e3 e4 hb
    go_enter Tryz.func187, Tryz.ntmps187
    go_wp2_with fail
    (with_reducible refine (kyGood_v k1 p1 z1 A1 c1 _ ((hr.alloc _).alloc _) (by omega) _ q).mono ?_)
    rintro e w1 ⟨rfl, hb1⟩
    have s1 : w.heap.size + 2 ≤ w1.heap.size := by have := hb1.size; simpa using this
    have hB1 := hB.trans (hb1.mono (by simp; omega))
    have bK1 := bK.st hb1
    have bZ1 := bZ.st hb1
    have y0 := bK1.cell 0
    have y1 := bK1.cell 1
    have y2 := bK1.cell 2
    have t0 := bZ1.cell 0
    have t1 := bZ1.cell 1
    have t2 := bZ1.cell 2
    have f0 := bZ1.frozen 0
    have f1 := bZ1.frozen 1
    have f2 := bZ1.frozen 2
    simp at y0 y1 y2 t0 t1 t2
    have hr3 := ((hr.alloc (.cells #[.int .i64 k1, .int .i64 p1, .slice A1 z1.length c1] 26)).alloc (.cells #[.int .i64 0, .int .i64 0, .slice none 0 0] 26)).st hb1
    clear bK bZ hB hb1
    go_wp2_with fail
    refine bodyPost_ret (v := .tuple #[.agg #[.int .i64 0, .int .i64 0, .slice none 0 0], .slice none 0 0, .bool false]) (by simp [results, Tryz.results187, go_sem, t0, t1, t2]) rfl ?_
    exact TwoRdO.no rfl (((hB1.setCell (by dsimp only; omega) _).setCell (by dsimp only; omega) _).setCell (by dsimp only; omega) _)
  | true =>
    cases q2 : inB n 0 1200 with
    | false =>
      have hb : ufB k1 p1 z1 n = false := by simp [ufB, q2]
      obtain ⟨e1, e2, e3, e4⟩ := uf_no hb
      rw [e1, e2, e3, e4, hb]
      clear e1 e2 e3 e4 hb
      go_enter Tryz.func187, Tryz.ntmps187
      go_wp2_with fail
      (with_reducible refine (kyGood_v k1 p1 z1 A1 c1 _ ((hr.alloc _).alloc _) (by omega) _ q).mono ?_)
      rintro e w1 ⟨rfl, hb1⟩
      have s1 : w.heap.size + 2 ≤ w1.heap.size := by have := hb1.size; simpa using this
      have hB1 := hB.trans (hb1.mono (by simp; omega))
      have bK1 := bK.st hb1
      have bZ1 := bZ.st hb1
      have y0 := bK1.cell 0
      have y1 := bK1.cell 1
      have y2 := bK1.cell 2
      have t0 := bZ1.cell 0
      have t1 := bZ1.cell 1
      have t2 := bZ1.cell 2
      have f0 := bZ1.frozen 0
      have f1 := bZ1.frozen 1
      have f2 := bZ1.frozen 2
      simp at y0 y1 y2 t0 t1 t2
      have hr3 := ((hr.alloc (.cells #[.int .i64 k1, .int .i64 p1, .slice A1 z1.length c1] 26)).alloc (.cells #[.int .i64 0, .int .i64 0, .slice none 0 0] 26)).st hb1
      clear bK bZ hB hb1
      go_wp2_with (go_at_call 104; (with_reducible refine (l1In_w _ _ _ _ _ q2).mono ?_); rintro e w' ⟨rfl, rfl⟩)
      refine bodyPost_ret (v := .tuple #[.agg #[.int .i64 0, .int .i64 0, .slice none 0 0], .slice none 0 0, .bool false]) (by simp [results, Tryz.results187, go_sem, t0, t1, t2]) rfl ?_
      exact TwoRdO.no rfl (((hB1.setCell (by dsimp only; omega) _).setCell (by dsimp only; omega) _).setCell (by dsimp only; omega) _)
    | true =>
      have hn := inB_iff.1 q2
      obtain ⟨hm, hm60, hm1, hm2⟩ := uf_m hn.1 hn.2
      have hfin := Lib.hid (show ufB k1 p1 z1 n = decide ((z1.length : Int) + (ufM n : Int) ≤ p1) by simp [ufB, q, q2])
      obtain ⟨m, hmm⟩ : ∃ m : Nat, m = ufM n := ⟨_, rfl⟩
      have hmmH := Lib.hid hmm
      rw [← hmm] at hm hm60 hm1 hm2
      have hp := (kb_facts q).2.1
      have hln := kb_len q
      have hiter := kb_iter q
      have hiterH := Lib.hid hiter
      clear hmm hiter hm
      go_enter Tryz.func187, Tryz.ntmps187
      go_wp2_with fail
      (with_reducible refine (kyGood_v k1 p1 z1 A1 c1 _ ((hr.alloc _).alloc _) (by omega) _ q).mono ?_)
      rintro e w1 ⟨rfl, hb1⟩
      have s1 : w.heap.size + 2 ≤ w1.heap.size := by have := hb1.size; simpa using this
      have hB1 := hB.trans (hb1.mono (by simp; omega))
      have bK1 := bK.st hb1
      have bZ1 := bZ.st hb1
      have y0 := bK1.cell 0
      have y1 := bK1.cell 1
      have y2 := bK1.cell 2
      have t0 := bZ1.cell 0
      have t1 := bZ1.cell 1
      have t2 := bZ1.cell 2
      have f0 := bZ1.frozen 0
      have f1 := bZ1.frozen 1
      have f2 := bZ1.frozen 2
      simp at y0 y1 y2 t0 t1 t2
      have hr3 := ((hr.alloc (.cells #[.int .i64 k1, .int .i64 p1, .slice A1 z1.length c1] 26)).alloc (.cells #[.int .i64 0, .int .i64 0, .slice none 0 0] 26)).st hb1
      clear bK bZ hB hb1
      have hlw1 : w.heap.size < w1.heap.size := by omega
      go_wp2_with (first | (go_at_call 104; (with_reducible refine (l1In_w _ _ _ _ _ q2).mono ?_); rintro e w' ⟨rfl, rfl⟩) | (fail))
      go_region_held3 (fun w' => w'.cell? ⟨w.heap.size, 0, none⟩ = some (.int .i64 k1) ∧ w'.cell? ⟨w.heap.size, 1, none⟩ = some (.int .i64 p1) ∧ w'.cell? ⟨w.heap.size, 2, none⟩ = some (.slice A1 z1.length c1))
        (first | ((try dsimp only); (repeat' apply And.intro) <;> assumption) | go_keep | ((try go_split_ands); (try dsimp only); (repeat' apply And.intro) <;> (first | assumption | go_keep | ((refine (hc2 _ _ ?_).trans ?_) <;> first | assumption | omega | (simp <;> omega)) | ((refine (World.cell?_alloc_lt _ _ _ ?_).trans ?_) <;> first | assumption | omega | (simp <;> omega)))))
        (first
          | (go_at_call 94; ((with_reducible refine (l1Own_any z1 A1 c1 _ hr3.drew (by omega)).mono ?_); rintro e w2 ⟨v2, rfl, o2, hb2⟩; (obtain ⟨A2, c2, rfl, _, _⟩ := o2.rd); (have hc2 := (bcell hb2).1); (have s2 : w1.heap.size ≤ w2.heap.size := hb2.size); (have s2' : w.heap.size < w2.heap.size := by omega); (have j0 := (hc2 _ _ (by simp; omega)).trans y0); (have j1 := (hc2 _ _ (by simp; omega)).trans y1); (have j2 := (hc2 _ _ (by simp; omega)).trans y2)))
          | (go_at_call 94; ((with_reducible refine (l1Own_any z1 A1 c1 _ (hr3.alloc _).drew (by omega)).mono ?_); rintro e w2 ⟨v2, rfl, o2, hb2⟩; (obtain ⟨A2, c2, rfl, _, _⟩ := o2.rd); (have hc2 := (bcell hb2).1); (have s2 : w1.heap.size + 1 ≤ w2.heap.size := by have := hb2.size; simpa using this); (have s2' : w.heap.size < w2.heap.size := by omega); (have j0 := (hc2 _ _ (by simp; omega)).trans ((World.cell?_alloc_lt w1 _ _ (by simp; omega)).trans y0)); (have j1 := (hc2 _ _ (by simp; omega)).trans ((World.cell?_alloc_lt w1 _ _ (by simp; omega)).trans y1)); (have j2 := (hc2 _ _ (by simp; omega)).trans ((World.cell?_alloc_lt w1 _ _ (by simp; omega)).trans y2)); (have kG := ((Bk.new w1 26 #[.int .i64 0, .int .i64 0, .slice none 0 0]).drew).st hb2); (have e0 := kG.cell 0); (have e1 := kG.cell 1); (have e2 := kG.cell 2); (have m0 := kG.frozen 0); (have m1 := kG.frozen 1); (have m2 := kG.frozen 2); (simp at e0 e1 e2); (have bKx := ((((((bK1.alloc (.cells #[.int .i64 0, .int .i64 0, .slice none 0 0] 26)).drew).st hb2).far (p := ⟨w1.heap.size, 0, none⟩) (by dsimp only; omega) (.int .i64 k1)).far (p := ⟨w1.heap.size, 1, none⟩) (by dsimp only; omega) (.int .i64 p1)).far (p := ⟨w1.heap.size, 2, none⟩) (by dsimp only; omega) (.slice A2 z1.length c2))); (have j3 : _ = some (Value.int .i64 k1) := bKx.cell 0); (have j4 : _ = some (Value.int .i64 p1) := bKx.cell 1); (have j5 : _ = some (Value.slice A1 z1.length c1) := bKx.cell 2))))
      · skip
        have o2' : Own w2 w1.heap.size w2.heap.size (.slice A2 z1.length c2) z1 := o2
        have hcap2 := o2'.len.2
        have hcM2 := o2'.capM
        have hA2 := o2'.addr_
        have rd2 := (o2'.rd').alloc (.cells #[.int .i64 k1, .int .i64 p1, .slice A2 z1.length c2] 26)
        have bK2 := ((bK1.drew).st hb2).alloc (.cells #[.int .i64 k1, .int .i64 p1, .slice A2 z1.length c2] 26)
        have bZ2 := ((bZ1.drew).st hb2).alloc (.cells #[.int .i64 k1, .int .i64 p1, .slice A2 z1.length c2] 26)
        have bG2 := Bk.new w2 26 #[.int .i64 k1, .int .i64 p1, .slice A2 z1.length c2]
        have hB2 := ((hB1.drew).trans (hb2.mono (by simp; omega))).alloc (by omega) (.cells #[.int .i64 k1, .int .i64 p1, .slice A2 z1.length c2] 26)
        have hst0 : w2.heap.size ≤ w2.heap.size ∨ w2.heap.size < w1.heap.size := .inl (Nat.le_refl _)
        have hst1 : w2.heap.size ≤ (w2.alloc (.cells #[.int .i64 k1, .int .i64 p1, .slice A2 z1.length c2] 26)).heap.size := by simp
        have hst2 : w2.heap.size + 1 ≤ (w2.alloc (.cells #[.int .i64 k1, .int .i64 p1, .slice A2 z1.length c2] 26)).heap.size := by simp
        clear y0 y1 y2 j0 j1 j2 t0 t1 t2 f0 f1 f2 bK1 bZ1 hb2 hc2 o2 o2' hB1 hr3
        go_wp2
        go_loopw [1, 8, 9] (fun x v _ wr => ∃ (i : Nat) (y : Int), i ≤ m ∧ x = .int .i64 y ∧ y = n - 20 * (i : Int) ∧ (z1.length : Int) + (i : Int) ≤ p1 ∧ ∃ A c l h, Bk wr w2.heap.size 26 #[.int .i64 k1, .int .i64 p1, .slice A (ufU z1 i).length c] ∧
            Rd wr l h A (ufU z1 i) ∧ (h ≤ w2.heap.size ∨ w2.heap.size < l) ∧ h ≤ wr.heap.size ∧ w.heap.size + 2 ≤ l ∧ (ufU z1 i).length ≤ c ∧ c ≤ 9223372036854775807 ∧ ((A = none ∧ c = 0) ∨ ∃ b off, A = some ⟨b, off, none⟩) ∧
            Own wr (w2.heap.size + 1) wr.heap.size v (ufP z1 i) ∧ (∀ k, v.ownBlock = some k → k < l ∨ h ≤ k) ∧
            Bk wr w.heap.size 26 #[.int .i64 k1, .int .i64 p1, .slice A1 z1.length c1] ∧ Bk wr (w.heap.size + 1) 26 #[.int .i64 0, .int .i64 0, .slice none 0 0] ∧ Below w.heap.size w wr ∧ w2.heap.size + 1 ≤ wr.heap.size) (fun x _ _ _ => (intOf x).toNat)
        case atStart => exact ⟨0, n, Nat.zero_le _, rfl, by simp, by omega, A2, c2, w1.heap.size, w2.heap.size, bG2, rd2, hst0, hst1, by omega, hcap2, hcM2, hA2, Own.nil, fun k hk => by simp [Value.ownBlock] at hk, bK2, bZ2, hB2, hst2⟩
        case round =>
          obtain ⟨i, y, hi, rfl, hy, hip, A, c, l1, h1, bG4, r4, hg4, hh1, hl1, hcap, hcM, hA, oP, hD, bK4, bZ4, hB4, hs4⟩ := hrel
          obtain ⟨hk, hlen⟩ := hiterH.out i hip
          have hpl := Lib.hid (ufP_len z1 i)
          have y0 := bG4.cell 0
          have y1 := bG4.cell 1
          have y2 := bG4.cell 2
          simp at y0 y1 y2
          have hlG := bG4.lt
          have hlZ := bZ4.lt
          have hlenH := Lib.hid hlen
          have hl6 : (ufU z1 i).length ≤ 1048575 := by omega
          by_cases hlt : 0 < y
          · by_cases hf : (z1.length : Int) + (i : Int) = p1
            · have hb : ufB k1 p1 z1 n = false := by rw [hfin.out, ← hmmH.out]; simp; omega
              have hno := Lib.hid (uf_no hb)
              have hbH := Lib.hid hb
              have hpf := pfx_full hk (by omega)
              have tq : (p1 == p1) = true := by simp
              clear hb hlen
              go_wp2_with fail
              (with_reducible refine (kyFree_v k1 p1 (ufU z1 i) A c _ r4 (by omega) hk p1 hpf).mono ?_)
              rintro e w5 ⟨rfl, hb5⟩
              have s5 : wr.heap.size ≤ w5.heap.size := hb5.size
              have bZb := bZ4.st hb5
              have bKb := bK4.st hb5
              have x1 := bKb.cell 1
              have t0 := bZb.cell 0
              have t1 := bZb.cell 1
              have t2 := bZb.cell 2
              have f0 := bZb.frozen 0
              have f1 := bZb.frozen 1
              have f2 := bZb.frozen 2
              simp at t0 t1 t2 x1
              have hB5 := Lib.hid (hB4.trans (hb5.mono (by omega)))
              clear bZb bKb bK4 bZ4 bG4 hb5 y0 y1 y2 r4 oP hD hB4 hpf
              go_wp2_with fail
              refine bodyPost_ret (v := .tuple #[.agg #[.int .i64 0, .int .i64 0, .slice none 0 0], .slice none 0 0, .bool false]) (by simp [results, Tryz.results187, go_sem, t0, t1, t2]) rfl ?_
              rw [hno.out.1, hno.out.2.1, hno.out.2.2.1, hno.out.2.2.2, hbH.out]
              exact TwoRdO.no rfl (((hB5.out.setCell (by dsimp only; omega) _).setCell (by dsimp only; omega) _).setCell (by dsimp only; omega) _)
            · have hst := kb_step hk (by omega)
              obtain ⟨u, hu⟩ : ∃ u : Int, (pfx (ufU z1 i) : Int) = u := ⟨_, rfl⟩
              obtain ⟨L, hL⟩ : ∃ L, putL (ufU z1 i) u = L := ⟨_, rfl⟩
              have hUL := Lib.hid (show ufU z1 (i + 1) = L by rw [← hL, ← hu]; rfl)
              have hPL := Lib.hid (show ufP z1 (i + 1) = ufP z1 i ++ [u] by rw [ufP_succ, hu])
              have hup : u ≤ p1 - 1 := by rw [← hu]; exact hst.2.2.2
              have tq : (u == p1) = false := by simp; omega
              have hLn := hiterH.out (i + 1) (by omega)
              rw [hUL.out] at hLn
              have hLm : L.length ≤ 1048576 := by rw [hLn.2]; omega
              have hLp : 0 < L.length := by rw [hLn.2]; omega
              have hlt' : i < m := by omega
              clear hlen hLn hst
              go_wp2_with fail
              (with_reducible refine (kyFree_v k1 p1 (ufU z1 i) A c _ r4 (by omega) hk u hu).mono ?_)
              rintro e w5 ⟨rfl, hb5⟩
              have s5 : wr.heap.size ≤ w5.heap.size := hb5.size
              have bZ5 := bZ4.st hb5
              have bK5 := bK4.st hb5
              have bG5 := bG4.st hb5
              have x1 := bK5.cell 1
              have r5 := r4.st hb5
              have oP5 := oP.st hb5
              have hB5 := hB4.trans (hb5.mono (by omega))
              have lG5 := bG5.lt
              clear y0 y1 y2
              have y0 := bG5.cell 0
              have y1 := bG5.cell 1
              have y2 := bG5.cell 2
              simp at x1 y0 y1 y2
              clear bK4 bZ4 bG4 hb5 r4 hB4
              go_wp2_with fail
              (with_reducible refine (kyUse_L k1 p1 (ufU z1 i) A c u _ r5 (by omega) (by omega) hcap hcM hA L hL hLp).mono ?_)
              rintro e w6 ⟨A6, c6, l6, h6, rfl, r6, hor6, lc6, mc6, ha6, hb6⟩
              have s6 : w5.heap.size ≤ w6.heap.size := hb6.size
              have bZ6 := bZ5.st hb6
              have bK6 := bK5.st hb6
              have bG6 := bG5.st hb6
              have oP6 := oP5.st hb6
              have hB6 := hB5.trans (hb6.mono (by omega))
              have lG6 := bG6.lt
              clear y0 y1 y2 x1
              have y0 := bG6.cell 0
              have y1 := bG6.cell 1
              have y2 := bG6.cell 2
              have n0 := bG6.frozen 0
              have n1 := bG6.frozen 1
              have n2 := bG6.frozen 2
              simp at y0 y1 y2
              have hg6 : h6 ≤ w2.heap.size ∨ w2.heap.size < l6 := by rcases hor6 with ⟨a, b⟩ | ⟨a, b⟩ <;> omega
              have hh6 : h6 ≤ w6.heap.size := by rcases hor6 with ⟨a, b⟩ | ⟨a, b⟩ <;> omega
              have hl6' : w.heap.size + 2 ≤ l6 := by rcases hor6 with ⟨a, b⟩ | ⟨a, b⟩ <;> omega
              have hD6 := Lib.hid (show ∀ k, _ = some k → k < l6 ∨ h6 ≤ k from fun k hk => by
                rcases hor6 with ⟨a, b⟩ | ⟨a, b⟩
                · rw [a, b]; exact hD k hk
                · have := (oP.lt k hk).2.1; omega)
              have kGc := bG6.put3 (.int .i64 k1) (.int .i64 p1) (.slice A6 L.length c6)
              have kKc := (((bK6.far (p := ⟨w2.heap.size, 0, none⟩) (by dsimp only; omega) (.int .i64 k1)).far (p := ⟨w2.heap.size, 1, none⟩) (by dsimp only; omega) (.int .i64 p1)).far (p := ⟨w2.heap.size, 2, none⟩) (by dsimp only; omega) (.slice A6 L.length c6))
              have kZc := (((bZ6.far (p := ⟨w2.heap.size, 0, none⟩) (by dsimp only; omega) (.int .i64 k1)).far (p := ⟨w2.heap.size, 1, none⟩) (by dsimp only; omega) (.int .i64 p1)).far (p := ⟨w2.heap.size, 2, none⟩) (by dsimp only; omega) (.slice A6 L.length c6))
              have rc := (Rd.store (p := ⟨w2.heap.size, 2, none⟩) (Rd.store (p := ⟨w2.heap.size, 1, none⟩) (Rd.store (p := ⟨w2.heap.size, 0, none⟩) r6 (by dsimp only; omega) (.int .i64 k1)) (by dsimp only; omega) (.int .i64 p1)) (by dsimp only; omega) (.slice A6 L.length c6))
              have oPc := (((oP6.setCell (p := ⟨w2.heap.size, 0, none⟩) (by dsimp only; omega) (.int .i64 k1)).setCell (p := ⟨w2.heap.size, 1, none⟩) (by dsimp only; omega) (.int .i64 p1)).setCell (p := ⟨w2.heap.size, 2, none⟩) (by dsimp only; omega) (.slice A6 L.length c6))
              have hBc := (((hB6.setCell (p := ⟨w2.heap.size, 0, none⟩) (by first | (dsimp only; omega) | (dsimp only; simp; omega)) (.int .i64 k1)).setCell (p := ⟨w2.heap.size, 1, none⟩) (by first | (dsimp only; omega) | (dsimp only; simp; omega)) (.int .i64 p1)).setCell (p := ⟨w2.heap.size, 2, none⟩) (by first | (dsimp only; omega) | (dsimp only; simp; omega)) (.slice A6 L.length c6))
              have hone := Rd.one_at (((w6.setCell ⟨w2.heap.size, 0, none⟩ (.int .i64 k1)).setCell ⟨w2.heap.size, 1, none⟩ (.int .i64 p1)).setCell ⟨w2.heap.size, 2, none⟩ (.slice A6 L.length c6)) w6.heap.size (by simp) #[.int .i64 u] 3 [u] rfl
              clear bK5 bZ5 bG5 bK6 bZ6 bG6 hb6 r5 r6 oP5 oP6 hB5 hB6 hor6 hD hg4 hh1 hl1 hcap hcM hA
              go_wp2_with (at_builtin; refine wp_append_ints rfl (.tmp 41) (.tmp 43) rfl rfl (oPc.alloc _) (ys := [u]) rfl hone (by rw [hpl.out]; simp; omega) (by simp; omega) ?_; intro v7 w7 o7 g7 b7 at7)
              have s7 : w6.heap.size + 1 ≤ w7.heap.size := by have := g7.size; simpa using this
              have kG7 := Lib.hid ((kGc.alloc _).below b7 (by omega))
              have kK7 := Lib.hid ((kKc.alloc _).below b7 (by omega))
              have kZ7 := Lib.hid ((kZc.alloc _).below b7 (by omega))
              have hB7 := Lib.hid ((hBc.alloc (by simp; omega) _).trans (b7.mono (by omega)))
              have r7 := Lib.hid ((rc.alloc _).grown g7 hD6.out)
              have hD7 := Lib.hid (show ∀ k, v7.ownBlock = some k → k < l6 ∨ h6 ≤ k from fun k hk => by
                rcases at7 with e | e
                · exact hD6.out k (e.symm.trans hk)
                · rw [e] at hk
                  injection hk with hk
                  simp at hk
                  omega)
              have o7H := Lib.hid o7
              clear kGc kKc kZc hBc rc oPc o7 g7 b7 at7 oP
              go_roundw
              case rel => exact ⟨i + 1, y - 20, by omega, by rw [hy], by push_cast; omega, by push_cast; omega, A6, c6, l6, h6, by rw [hUL.out]; exact kG7.out, by rw [hUL.out]; exact r7.out, hg6, by omega, hl6', by rw [hUL.out]; exact lc6, mc6, .inr ha6, by rw [hPL.out]; exact o7H.out, hD7.out, kK7.out, kZ7.out, hB7.out, by omega⟩
              case measure => simp [intOf]; omega
          · obtain rfl : i = m := by omega
            have hb : ufB k1 p1 z1 n = true := by rw [hfin.out, ← hmmH.out]; simp; omega
            have hys := Lib.hid (uf_yes hb)
            have hbH := Lib.hid hb
            have t0 := bZ4.cell 0
            have t1 := bZ4.cell 1
            have t2 := bZ4.cell 2
            have f0 := bZ4.frozen 0
            have f1 := bZ4.frozen 1
            have f2 := bZ4.frozen 2
            simp at t0 t1 t2
            obtain ⟨B, d, rfl, -, -⟩ := oP.rd
            have hcapP := Lib.hid (show (ufP z1 i).length ≤ d ∧ d ≤ 9223372036854775807 from ⟨oP.len.2, oP.capM⟩)
            have r4H := Lib.hid ((Rd.store (p := ⟨(w.heap.size + 1), 2, none⟩) (Rd.store (p := ⟨(w.heap.size + 1), 1, none⟩) (Rd.store (p := ⟨(w.heap.size + 1), 0, none⟩) r4 (by dsimp only; omega) (.int .i64 k1)) (by dsimp only; omega) (.int .i64 p1)) (by dsimp only; omega) (.slice A (ufU z1 i).length c)))
            have oPH := Lib.hid ((((oP.setCell (p := ⟨(w.heap.size + 1), 0, none⟩) (by dsimp only; omega) (.int .i64 k1)).setCell (p := ⟨(w.heap.size + 1), 1, none⟩) (by dsimp only; omega) (.int .i64 p1)).setCell (p := ⟨(w.heap.size + 1), 2, none⟩) (by dsimp only; omega) (.slice A (ufU z1 i).length c)))
            clear hb bK4 bZ4 bG4 r4 oP hD hlen
            go_wp2_with fail
            refine bodyPost_ret (v := .tuple #[.agg #[.int .i64 k1, .int .i64 p1, .slice A (ufU z1 i).length c], .slice B (ufP z1 i).length d, .bool true]) (by simp [results, Tryz.results187, go_sem, t0, t1, t2]) rfl ?_
            rw [hys.out.1, hys.out.2.1, hys.out.2.2.1, hys.out.2.2.2, hbH.out, ← hmmH.out]
            refine ⟨A, c, B, d, rfl, r4H.out.mono (by omega) (by simp only [size_setCell]; omega), oPH.out.mono (by omega) (by simp only [size_setCell]; omega), by omega, by rw [hpl.out]; omega, hcapP.out, ?_⟩
            exact ((hB4.setCell (by dsimp only; omega) _).setCell (by dsimp only; omega) _).setCell (by dsimp only; omega) _
      · skip
        have o2' : Own w2 (w1.heap.size + 1) w2.heap.size (.slice A2 z1.length c2) z1 := by
          have e : ((w1.alloc (.cells #[.int .i64 0, .int .i64 0, .slice none 0 0] 26)).drew).heap.size = w1.heap.size + 1 := by simp
          rw [e] at o2
          exact o2
        have hcap2 := o2'.len.2
        have hcM2 := o2'.capM
        have hA2 := o2'.addr_
        have rd2 := (Rd.store (p := ⟨w1.heap.size, 2, none⟩) (Rd.store (p := ⟨w1.heap.size, 1, none⟩) (Rd.store (p := ⟨w1.heap.size, 0, none⟩) (o2'.rd') (by dsimp only; omega) (.int .i64 k1)) (by dsimp only; omega) (.int .i64 p1)) (by dsimp only; omega) (.slice A2 z1.length c2))
        have bK2 := ((((((bK1.alloc (.cells #[.int .i64 0, .int .i64 0, .slice none 0 0] 26)).drew).st hb2).far (p := ⟨w1.heap.size, 0, none⟩) (by dsimp only; omega) (.int .i64 k1)).far (p := ⟨w1.heap.size, 1, none⟩) (by dsimp only; omega) (.int .i64 p1)).far (p := ⟨w1.heap.size, 2, none⟩) (by dsimp only; omega) (.slice A2 z1.length c2))
        have bZ2 := ((((((bZ1.alloc (.cells #[.int .i64 0, .int .i64 0, .slice none 0 0] 26)).drew).st hb2).far (p := ⟨w1.heap.size, 0, none⟩) (by dsimp only; omega) (.int .i64 k1)).far (p := ⟨w1.heap.size, 1, none⟩) (by dsimp only; omega) (.int .i64 p1)).far (p := ⟨w1.heap.size, 2, none⟩) (by dsimp only; omega) (.slice A2 z1.length c2))
        have bG2 := kG.put3 (.int .i64 k1) (.int .i64 p1) (.slice A2 z1.length c2)
        have hB2 := ((((((hB1.alloc (by omega) (.cells #[.int .i64 0, .int .i64 0, .slice none 0 0] 26)).drew).trans (hb2.mono (by simp; omega))).setCell (p := ⟨w1.heap.size, 0, none⟩) (by first | (dsimp only; omega) | (dsimp only; simp; omega)) (.int .i64 k1)).setCell (p := ⟨w1.heap.size, 1, none⟩) (by first | (dsimp only; omega) | (dsimp only; simp; omega)) (.int .i64 p1)).setCell (p := ⟨w1.heap.size, 2, none⟩) (by first | (dsimp only; omega) | (dsimp only; simp; omega)) (.slice A2 z1.length c2))
        have hst0 : w2.heap.size ≤ w1.heap.size ∨ w1.heap.size < w1.heap.size + 1 := .inr (Nat.lt_succ_self _)
        have hst1 : w2.heap.size ≤ (((w2.setCell ⟨w1.heap.size, 0, none⟩ (.int .i64 k1)).setCell ⟨w1.heap.size, 1, none⟩ (.int .i64 p1)).setCell ⟨w1.heap.size, 2, none⟩ (.slice A2 z1.length c2)).heap.size := by simp
        have hst2 : w1.heap.size + 1 ≤ (((w2.setCell ⟨w1.heap.size, 0, none⟩ (.int .i64 k1)).setCell ⟨w1.heap.size, 1, none⟩ (.int .i64 p1)).setCell ⟨w1.heap.size, 2, none⟩ (.slice A2 z1.length c2)).heap.size := by simp; omega
        clear y0 y1 y2 j0 j1 j2 j3 j4 j5 bKx e0 e1 e2 m0 m1 m2 kG t0 t1 t2 f0 f1 f2 bK1 bZ1 hb2 hc2 o2 o2' hB1 hr3
        go_wp2
        go_loopw [1, 8, 9] (fun x v _ wr => ∃ (i : Nat) (y : Int), i ≤ m ∧ x = .int .i64 y ∧ y = n - 20 * (i : Int) ∧ (z1.length : Int) + (i : Int) ≤ p1 ∧ ∃ A c l h, Bk wr w1.heap.size 26 #[.int .i64 k1, .int .i64 p1, .slice A (ufU z1 i).length c] ∧
            Rd wr l h A (ufU z1 i) ∧ (h ≤ w1.heap.size ∨ w1.heap.size < l) ∧ h ≤ wr.heap.size ∧ w.heap.size + 2 ≤ l ∧ (ufU z1 i).length ≤ c ∧ c ≤ 9223372036854775807 ∧ ((A = none ∧ c = 0) ∨ ∃ b off, A = some ⟨b, off, none⟩) ∧
            Own wr (w1.heap.size + 1) wr.heap.size v (ufP z1 i) ∧ (∀ k, v.ownBlock = some k → k < l ∨ h ≤ k) ∧
            Bk wr w.heap.size 26 #[.int .i64 k1, .int .i64 p1, .slice A1 z1.length c1] ∧ Bk wr (w.heap.size + 1) 26 #[.int .i64 0, .int .i64 0, .slice none 0 0] ∧ Below w.heap.size w wr ∧ w1.heap.size + 1 ≤ wr.heap.size) (fun x _ _ _ => (intOf x).toNat)
        case atStart => exact ⟨0, n, Nat.zero_le _, rfl, by simp, by omega, A2, c2, (w1.heap.size + 1), w2.heap.size, bG2, rd2, hst0, hst1, by omega, hcap2, hcM2, hA2, Own.nil, fun k hk => by simp [Value.ownBlock] at hk, bK2, bZ2, hB2, hst2⟩
        case round =>
          obtain ⟨i, y, hi, rfl, hy, hip, A, c, l1, h1, bG4, r4, hg4, hh1, hl1, hcap, hcM, hA, oP, hD, bK4, bZ4, hB4, hs4⟩ := hrel
          obtain ⟨hk, hlen⟩ := hiterH.out i hip
          have hpl := Lib.hid (ufP_len z1 i)
          have y0 := bG4.cell 0
          have y1 := bG4.cell 1
          have y2 := bG4.cell 2
          simp at y0 y1 y2
          have hlG := bG4.lt
          have hlZ := bZ4.lt
          have hlenH := Lib.hid hlen
          have hl6 : (ufU z1 i).length ≤ 1048575 := by omega
          by_cases hlt : 0 < y
          · by_cases hf : (z1.length : Int) + (i : Int) = p1
            · have hb : ufB k1 p1 z1 n = false := by rw [hfin.out, ← hmmH.out]; simp; omega
              have hno := Lib.hid (uf_no hb)
              have hbH := Lib.hid hb
              have hpf := pfx_full hk (by omega)
              have tq : (p1 == p1) = true := by simp
              clear hb hlen
              go_wp2_with fail
              (with_reducible refine (kyFree_v k1 p1 (ufU z1 i) A c _ r4 (by omega) hk p1 hpf).mono ?_)
              rintro e w5 ⟨rfl, hb5⟩
              have s5 : wr.heap.size ≤ w5.heap.size := hb5.size
              have bZb := bZ4.st hb5
              have bKb := bK4.st hb5
              have x1 := bKb.cell 1
              have t0 := bZb.cell 0
              have t1 := bZb.cell 1
              have t2 := bZb.cell 2
              have f0 := bZb.frozen 0
              have f1 := bZb.frozen 1
              have f2 := bZb.frozen 2
              simp at t0 t1 t2 x1
              have hB5 := Lib.hid (hB4.trans (hb5.mono (by omega)))
              clear bZb bKb bK4 bZ4 bG4 hb5 y0 y1 y2 r4 oP hD hB4 hpf
              go_wp2_with fail
              refine bodyPost_ret (v := .tuple #[.agg #[.int .i64 0, .int .i64 0, .slice none 0 0], .slice none 0 0, .bool false]) (by simp [results, Tryz.results187, go_sem, t0, t1, t2]) rfl ?_
              rw [hno.out.1, hno.out.2.1, hno.out.2.2.1, hno.out.2.2.2, hbH.out]
              exact TwoRdO.no rfl (((hB5.out.setCell (by dsimp only; omega) _).setCell (by dsimp only; omega) _).setCell (by dsimp only; omega) _)
            · have hst := kb_step hk (by omega)
              obtain ⟨u, hu⟩ : ∃ u : Int, (pfx (ufU z1 i) : Int) = u := ⟨_, rfl⟩
              obtain ⟨L, hL⟩ : ∃ L, putL (ufU z1 i) u = L := ⟨_, rfl⟩
              have hUL := Lib.hid (show ufU z1 (i + 1) = L by rw [← hL, ← hu]; rfl)
              have hPL := Lib.hid (show ufP z1 (i + 1) = ufP z1 i ++ [u] by rw [ufP_succ, hu])
              have hup : u ≤ p1 - 1 := by rw [← hu]; exact hst.2.2.2
              have tq : (u == p1) = false := by simp; omega
              have hLn := hiterH.out (i + 1) (by omega)
              rw [hUL.out] at hLn
              have hLm : L.length ≤ 1048576 := by rw [hLn.2]; omega
              have hLp : 0 < L.length := by rw [hLn.2]; omega
              have hlt' : i < m := by omega
              clear hlen hLn hst
              go_wp2_with fail
              (with_reducible refine (kyFree_v k1 p1 (ufU z1 i) A c _ r4 (by omega) hk u hu).mono ?_)
              rintro e w5 ⟨rfl, hb5⟩
              have s5 : wr.heap.size ≤ w5.heap.size := hb5.size
              have bZ5 := bZ4.st hb5
              have bK5 := bK4.st hb5
              have bG5 := bG4.st hb5
              have x1 := bK5.cell 1
              have r5 := r4.st hb5
              have oP5 := oP.st hb5
              have hB5 := hB4.trans (hb5.mono (by omega))
              have lG5 := bG5.lt
              clear y0 y1 y2
              have y0 := bG5.cell 0
              have y1 := bG5.cell 1
              have y2 := bG5.cell 2
              simp at x1 y0 y1 y2
              clear bK4 bZ4 bG4 hb5 r4 hB4
              go_wp2_with fail
              (with_reducible refine (kyUse_L k1 p1 (ufU z1 i) A c u _ r5 (by omega) (by omega) hcap hcM hA L hL hLp).mono ?_)
              rintro e w6 ⟨A6, c6, l6, h6, rfl, r6, hor6, lc6, mc6, ha6, hb6⟩
              have s6 : w5.heap.size ≤ w6.heap.size := hb6.size
              have bZ6 := bZ5.st hb6
              have bK6 := bK5.st hb6
              have bG6 := bG5.st hb6
              have oP6 := oP5.st hb6
              have hB6 := hB5.trans (hb6.mono (by omega))
              have lG6 := bG6.lt
              clear y0 y1 y2 x1
              have y0 := bG6.cell 0
              have y1 := bG6.cell 1
              have y2 := bG6.cell 2
              have n0 := bG6.frozen 0
              have n1 := bG6.frozen 1
              have n2 := bG6.frozen 2
              simp at y0 y1 y2
              have hg6 : h6 ≤ w1.heap.size ∨ w1.heap.size < l6 := by rcases hor6 with ⟨a, b⟩ | ⟨a, b⟩ <;> omega
              have hh6 : h6 ≤ w6.heap.size := by rcases hor6 with ⟨a, b⟩ | ⟨a, b⟩ <;> omega
              have hl6' : w.heap.size + 2 ≤ l6 := by rcases hor6 with ⟨a, b⟩ | ⟨a, b⟩ <;> omega
              have hD6 := Lib.hid (show ∀ k, _ = some k → k < l6 ∨ h6 ≤ k from fun k hk => by
                rcases hor6 with ⟨a, b⟩ | ⟨a, b⟩
                · rw [a, b]; exact hD k hk
                · have := (oP.lt k hk).2.1; omega)
              have kGc := bG6.put3 (.int .i64 k1) (.int .i64 p1) (.slice A6 L.length c6)
              have kKc := (((bK6.far (p := ⟨w1.heap.size, 0, none⟩) (by dsimp only; omega) (.int .i64 k1)).far (p := ⟨w1.heap.size, 1, none⟩) (by dsimp only; omega) (.int .i64 p1)).far (p := ⟨w1.heap.size, 2, none⟩) (by dsimp only; omega) (.slice A6 L.length c6))
              have kZc := (((bZ6.far (p := ⟨w1.heap.size, 0, none⟩) (by dsimp only; omega) (.int .i64 k1)).far (p := ⟨w1.heap.size, 1, none⟩) (by dsimp only; omega) (.int .i64 p1)).far (p := ⟨w1.heap.size, 2, none⟩) (by dsimp only; omega) (.slice A6 L.length c6))
              have rc := (Rd.store (p := ⟨w1.heap.size, 2, none⟩) (Rd.store (p := ⟨w1.heap.size, 1, none⟩) (Rd.store (p := ⟨w1.heap.size, 0, none⟩) r6 (by dsimp only; omega) (.int .i64 k1)) (by dsimp only; omega) (.int .i64 p1)) (by dsimp only; omega) (.slice A6 L.length c6))
              have oPc := (((oP6.setCell (p := ⟨w1.heap.size, 0, none⟩) (by dsimp only; omega) (.int .i64 k1)).setCell (p := ⟨w1.heap.size, 1, none⟩) (by dsimp only; omega) (.int .i64 p1)).setCell (p := ⟨w1.heap.size, 2, none⟩) (by dsimp only; omega) (.slice A6 L.length c6))
              have hBc := (((hB6.setCell (p := ⟨w1.heap.size, 0, none⟩) (by first | (dsimp only; omega) | (dsimp only; simp; omega)) (.int .i64 k1)).setCell (p := ⟨w1.heap.size, 1, none⟩) (by first | (dsimp only; omega) | (dsimp only; simp; omega)) (.int .i64 p1)).setCell (p := ⟨w1.heap.size, 2, none⟩) (by first | (dsimp only; omega) | (dsimp only; simp; omega)) (.slice A6 L.length c6))
              have hone := Rd.one_at (((w6.setCell ⟨w1.heap.size, 0, none⟩ (.int .i64 k1)).setCell ⟨w1.heap.size, 1, none⟩ (.int .i64 p1)).setCell ⟨w1.heap.size, 2, none⟩ (.slice A6 L.length c6)) w6.heap.size (by simp) #[.int .i64 u] 3 [u] rfl
              clear bK5 bZ5 bG5 bK6 bZ6 bG6 hb6 r5 r6 oP5 oP6 hB5 hB6 hor6 hD hg4 hh1 hl1 hcap hcM hA
              go_wp2_with (at_builtin; refine wp_append_ints rfl (.tmp 41) (.tmp 43) rfl rfl (oPc.alloc _) (ys := [u]) rfl hone (by rw [hpl.out]; simp; omega) (by simp; omega) ?_; intro v7 w7 o7 g7 b7 at7)
              have s7 : w6.heap.size + 1 ≤ w7.heap.size := by have := g7.size; simpa using this
              have kG7 := Lib.hid ((kGc.alloc _).below b7 (by omega))
              have kK7 := Lib.hid ((kKc.alloc _).below b7 (by omega))
              have kZ7 := Lib.hid ((kZc.alloc _).below b7 (by omega))
              have hB7 := Lib.hid ((hBc.alloc (by simp; omega) _).trans (b7.mono (by omega)))
              have r7 := Lib.hid ((rc.alloc _).grown g7 hD6.out)
              have hD7 := Lib.hid (show ∀ k, v7.ownBlock = some k → k < l6 ∨ h6 ≤ k from fun k hk => by
                rcases at7 with e | e
                · exact hD6.out k (e.symm.trans hk)
                · rw [e] at hk
                  injection hk with hk
                  simp at hk
                  omega)
              have o7H := Lib.hid o7
              clear kGc kKc kZc hBc rc oPc o7 g7 b7 at7 oP
              go_roundw
              case rel => exact ⟨i + 1, y - 20, by omega, by rw [hy], by push_cast; omega, by push_cast; omega, A6, c6, l6, h6, by rw [hUL.out]; exact kG7.out, by rw [hUL.out]; exact r7.out, hg6, by omega, hl6', by rw [hUL.out]; exact lc6, mc6, .inr ha6, by rw [hPL.out]; exact o7H.out, hD7.out, kK7.out, kZ7.out, hB7.out, by omega⟩
              case measure => simp [intOf]; omega
          · obtain rfl : i = m := by omega
            have hb : ufB k1 p1 z1 n = true := by rw [hfin.out, ← hmmH.out]; simp; omega
            have hys := Lib.hid (uf_yes hb)
            have hbH := Lib.hid hb
            have t0 := bZ4.cell 0
            have t1 := bZ4.cell 1
            have t2 := bZ4.cell 2
            have f0 := bZ4.frozen 0
            have f1 := bZ4.frozen 1
            have f2 := bZ4.frozen 2
            simp at t0 t1 t2
            obtain ⟨B, d, rfl, -, -⟩ := oP.rd
            have hcapP := Lib.hid (show (ufP z1 i).length ≤ d ∧ d ≤ 9223372036854775807 from ⟨oP.len.2, oP.capM⟩)
            have r4H := Lib.hid ((Rd.store (p := ⟨(w.heap.size + 1), 2, none⟩) (Rd.store (p := ⟨(w.heap.size + 1), 1, none⟩) (Rd.store (p := ⟨(w.heap.size + 1), 0, none⟩) r4 (by dsimp only; omega) (.int .i64 k1)) (by dsimp only; omega) (.int .i64 p1)) (by dsimp only; omega) (.slice A (ufU z1 i).length c)))
            have oPH := Lib.hid ((((oP.setCell (p := ⟨(w.heap.size + 1), 0, none⟩) (by dsimp only; omega) (.int .i64 k1)).setCell (p := ⟨(w.heap.size + 1), 1, none⟩) (by dsimp only; omega) (.int .i64 p1)).setCell (p := ⟨(w.heap.size + 1), 2, none⟩) (by dsimp only; omega) (.slice A (ufU z1 i).length c)))
            clear hb bK4 bZ4 bG4 r4 oP hD hlen
            go_wp2_with fail
            refine bodyPost_ret (v := .tuple #[.agg #[.int .i64 k1, .int .i64 p1, .slice A (ufU z1 i).length c], .slice B (ufP z1 i).length d, .bool true]) (by simp [results, Tryz.results187, go_sem, t0, t1, t2]) rfl ?_
            rw [hys.out.1, hys.out.2.1, hys.out.2.2.1, hys.out.2.2.2, hbH.out, ← hmmH.out]
            refine ⟨A, c, B, d, rfl, r4H.out.mono (by omega) (by simp only [size_setCell]; omega), oPH.out.mono (by omega) (by simp only [size_setCell]; omega), by omega, by rw [hpl.out]; omega, hcapP.out, ?_⟩
            exact ((hB4.setCell (by dsimp only; omega) _).setCell (by dsimp only; omega) _).setCell (by dsimp only; omega) _
theorem sUseForLength_c (k1 p1 : Int) (z1 : List Int) (A1 : Option Addr) (c1 : Nat) (n : Int) {l h : Nat} (w : World) (hr0 : Rd w l h A1 z1) (hl : z1.length ≤ 1048576) :
    Calls Tryz.prog 187 #[.agg #[.int .i64 k1, .int .i64 p1, .slice A1 z1.length c1], .int .i64 n] w (TwoRdC (ufK k1 p1 z1 n) (ufG k1 p1 z1 n) (ufL k1 p1 z1 n) (ufN k1 p1 z1 n) (ufB k1 p1 z1 n) w) :=
  (sUseForLength_o k1 p1 z1 A1 c1 n w hr0 hl).mono fun e w' ⟨A, c, B, d, h1, h2, h3, h4, h5, h6, h7⟩ => ⟨A, c, B, d, h1, h2, h3.rd', h4, h5, h6, h7⟩
theorem sUseForLength_any (k1 p1 : Int) (z1 : List Int) (A1 : Option Addr) (c1 : Nat) (n : Int) {l h : Nat} (w : World) (hr0 : Rd w l h A1 z1) (hl : z1.length ≤ 1048576) :
    Calls Tryz.prog 187 #[.agg #[.int .i64 k1, .int .i64 p1, .slice A1 z1.length c1], .int .i64 n] w (TwoRd (ufK k1 p1 z1 n) (ufG k1 p1 z1 n) (ufL k1 p1 z1 n) (ufN k1 p1 z1 n) (ufB k1 p1 z1 n) w) :=
  (sUseForLength_c k1 p1 z1 A1 c1 n w hr0 hl).mono fun e w' ⟨A, c, B, d, h1, h2, h3, h4, h5, _, h7⟩ => ⟨A, c, B, d, h1, h2, h3, h4, h5, h7⟩
end Go.Proofs.YtjhbffndiaggmaaGreatDoor
