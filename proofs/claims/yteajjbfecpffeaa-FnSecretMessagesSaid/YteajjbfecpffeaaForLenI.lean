/-
  Contracts of UseForLength in the program. The conditions are bounds on lengths.
-/
import Derived.Test.YteajjbfecpffeaaUse3
import Derived.Test.YteajjbfecpffeaaPureU
import Derived.Test.YteajjbfecpffeaaMarkS
namespace Go.Proofs.Yteajjbfecpffeaa
open Go.RowKit Go.ChangeShapes Go.WideShapes
set_option linter.unusedVariables false
set_option linter.unusedSimpArgs false

/-- two slices of a call's own that share no block, each in blocks of its own -/
theorem own_pair {w : World} {lo hi l h : Nat} {u v : Value} {s z : List Int} (h1 : Own w lo hi u s) (h2 : Own w l h v z) (hd : Dj u v) :
    ∃ l1 r1 l2 r2, Own w l1 r1 u s ∧ Own w l2 r2 v z ∧ lo ≤ l1 ∧ r1 ≤ max lo hi ∧ l ≤ l2 ∧ r2 ≤ max l h ∧ (r1 ≤ l2 ∨ r2 ≤ l1) := by
  rcases h1.1.2 with ⟨rfl, h0⟩ | ⟨g, cap, cur, rfl, hb, hg, hnc, hcm, hsz, htk⟩
  · obtain rfl : s = [] := List.eq_nil_of_length_eq_zero h0
    by_cases hx : lo ≤ l
    · exact ⟨lo, lo, l, max l h, Own.nil, h2.mono (Nat.le_refl _) (by omega), by omega, by omega, by omega, by omega, .inl hx⟩
    · refine ⟨max lo (max l h), lo, l, max l h, Own.nil, h2.mono (Nat.le_refl _) (by omega), by omega, by omega, by omega, by omega, .inr (by omega)⟩
  · have hg2 := h1.lt g (by simp [Value.ownBlock])
    have k1 : Own w g (g + 1) (.slice (some ⟨g, 0, none⟩) s.length cap) s := ⟨⟨h1.1.1, .inr ⟨g, cap, cur, rfl, Nat.le_refl _, hg, hnc, hcm, hsz, htk⟩⟩, fun k hk => by
      have : g = k := by simpa [Value.ownBlock] using hk
      omega⟩
    rcases h2.1.2 with ⟨rfl, h0⟩ | ⟨g', cap', cur', rfl, hb', hg', hnc', hcm', hsz', htk'⟩
    · obtain rfl : z = [] := List.eq_nil_of_length_eq_zero h0
      refine ⟨g, g + 1, max l (g + 1), l, k1, Own.nil, by omega, by omega, by omega, by omega, .inl (by omega)⟩
    · have hg3 := h2.lt g' (by simp [Value.ownBlock])
      have k2 : Own w g' (g' + 1) (.slice (some ⟨g', 0, none⟩) z.length cap') z := ⟨⟨h2.1.1, .inr ⟨g', cap', cur', rfl, Nat.le_refl _, hg', hnc', hcm', hsz', htk'⟩⟩, fun k hk => by
        have : g' = k := by simpa [Value.ownBlock] using hk
        omega⟩
      have hne : g ≠ g' := by
        rcases hd with d | d
        · simp [Value.ownBlock] at d
        · intro e; subst e; exact d (by simp [Value.ownBlock])
      exact ⟨g, g + 1, g', g' + 1, k1, k2, by omega, by omega, by omega, by omega, by omega⟩
theorem Bk.put3 {w : World} {g : Nat} {t : TypeId} {a b c : Value} (h : Bk w g t #[a, b, c]) (a' b' c' : Value) : Bk (((w.setCell ⟨g, 0, none⟩ a').setCell ⟨g, 1, none⟩ b').setCell ⟨g, 2, none⟩ c') g t #[a', b', c'] := by
  simpa using ((h.set_ 0 a').set_ 1 b').set_ 2 c'
theorem Rd.one_at (w : World) (g : Nat) (hg : w.heap.size = g) (cs : Array Value) (t : TypeId) (zs : List Int) (hcs : cs.toList = zs.map (Value.int .i64)) : Rd (w.alloc (.cells cs t)) 0 (w.alloc (.cells cs t)).heap.size (some ⟨g, 0, none⟩) zs := by
  subst hg; exact (Rd.one w cs t zs hcs).mono (Nat.zero_le _) (by simp)
theorem dj_nil (u : Value) : Dj u (.slice none 0 0) := by
  unfold Dj
  cases hb : u.ownBlock with
  | none => exact .inl rfl
  | some k => right; simp [Value.ownBlock]
theorem Own.grown {w w' : World} {l h : Nat} {u : Value} {s : List Int} {row : Option Nat} (ho : Own w l h u s) (hg : w.grownBy w' row) (hd : ∀ k, u.ownBlock = some k → row ≠ some k) : Own w' l h u s :=
  ho.keep fun k hk _ _ h3 => hg.block k h3 (fun e => hd k hk e.symm)
theorem Dj.row {u v : Value} (hd : Dj u v) : ∀ k, u.ownBlock = some k → v.ownBlock ≠ some k := fun k hk e => by
  rcases hd with d | d
  · rw [hk] at d; cases d
  · exact d (by rw [hk, e])
theorem Dj.grown {u v v' : Value} {n : Nat} (hd : Dj u v) (hat : v'.ownBlock = v.ownBlock ∨ v'.ownBlock = some n) (hu : ∀ k, u.ownBlock = some k → k < n) : Dj u v' := by
  unfold Dj at hd ⊢
  rcases hat with e | e
  · rw [e]; exact hd
  · cases hb : u.ownBlock with
    | none => exact .inl rfl
    | some k =>
      right
      rw [e]
      intro e2
      injection e2 with e2
      have := hu k hb
      omega
/-- what a call returns that makes a key book and pages -/
def TwoOwn (k p : Int) (us ps : List Int) (b : Bool) (w : World) (e : Ending) (w' : World) : Prop :=
  ∃ A c B d l1 r1 l2 r2, e = .returned (.tuple #[.agg #[.int .i64 k, .int .i64 p, .slice A us.length c], .slice B ps.length d, .bool b]) ∧ Own w' l1 r1 (.slice A us.length c) us ∧ Own w' l2 r2 (.slice B ps.length d) ps ∧
    (w.heap.size ≤ l1 ∧ r1 ≤ w'.heap.size ∧ w.heap.size ≤ l2 ∧ r2 ≤ w'.heap.size ∧ (r1 ≤ l2 ∨ r2 ≤ l1)) ∧ us.length ≤ 1048576 ∧ ps.length ≤ 1048576 ∧ Below w.heap.size w w'
theorem TwoOwn.no {w w' : World} {e : Ending} (he : e = .returned (.tuple #[.agg #[.int .i64 0, .int .i64 0, .slice none 0 0], .slice none 0 0, .bool false])) (hB : Below w.heap.size w w') : TwoOwn 0 0 [] [] false w e w' :=
  ⟨none, 0, none, 0, w.heap.size, w.heap.size, w.heap.size, w.heap.size, he, Own.nil, Own.nil, ⟨Nat.le_refl _, hB.size, Nat.le_refl _, hB.size, .inl (Nat.le_refl _)⟩, by simp, by simp, hB⟩
theorem iUseNext_no (k1 p1 : Int) (z1 : List Int) (A1 : Option Addr) (c1 : Nat) {l h : Nat} (w : World) (ho0 : Own w l h (.slice A1 z1.length c1) z1) (hl : z1.length ≤ 1048576) (hb : unB k1 p1 z1 = false) :
    Calls Try.prog 109 #[.agg #[.int .i64 k1, .int .i64 p1, .slice A1 z1.length c1]] w fun e w' => ∃ A c, e = .returned (.tuple #[.agg #[.int .i64 0, .int .i64 0, .slice A 0 c], .int .i64 0, .bool false]) ∧ Below w.heap.size w w' := by
  refine (iUseNextPage_any k1 p1 z1 A1 c1 w ho0 hl).mono fun e w' h => ?_
  obtain ⟨h1, h2, h3, h4⟩ := un_no hb
  rw [h1, h2, h3, h4, hb] at h
  obtain ⟨A, c, rfl, ho, _, hB⟩ := h
  exact ⟨A, c, rfl, hB⟩
theorem iUseNext_yes (k1 p1 : Int) (z1 : List Int) (A1 : Option Addr) (c1 : Nat) {l h : Nat} (w : World) (ho0 : Own w l h (.slice A1 z1.length c1) z1) (hl : z1.length ≤ 1048576) (hb : unB k1 p1 z1 = true) (L : List Int) (hL : putL z1 (pfx z1) = L) (v : Int) (hv : (pfx z1 : Int) = v) :
    Calls Try.prog 109 #[.agg #[.int .i64 k1, .int .i64 p1, .slice A1 z1.length c1]] w fun e w' => ∃ A c, e = .returned (.tuple #[.agg #[.int .i64 k1, .int .i64 p1, .slice A L.length c], .int .i64 v, .bool true]) ∧ Own w' w.heap.size w'.heap.size (.slice A L.length c) L ∧ Below w.heap.size w w' := by
  refine (iUseNextPage_any k1 p1 z1 A1 c1 w ho0 hl).mono fun e w' h => ?_
  obtain ⟨h1, h2, h3, h4⟩ := un_yes hb
  rw [h1, h2, h3, h4, hb, hL, hv] at h
  obtain ⟨A, c, rfl, ho, _, hB⟩ := h
  exact ⟨A, c, rfl, ho, hB⟩
theorem within_w (n lo hi : Int) (w : World) (v : Bool) (hv : inB n lo hi = v) :
    Calls Try.prog 86 #[.int .i64 n, .int .i64 lo, .int .i64 hi] w fun e w' => e = .returned (.bool v) ∧ w = w' := by
  rw [← hv]; exact within_any n lo hi w
set_option maxHeartbeats 4000000 in
theorem iUseForLength_any (k1 p1 : Int) (z1 : List Int) (A1 : Option Addr) (c1 : Nat) (n : Int) {l h : Nat} (w : World) (hr0 : Rd w l h A1 z1) (hl : z1.length ≤ 1048576) :
    Calls Try.prog 72 #[.agg #[.int .i64 k1, .int .i64 p1, .slice A1 z1.length c1], .int .i64 n] w (TwoOwn (ufK k1 p1 z1 n) (ufG k1 p1 z1 n) (ufL k1 p1 z1 n) (ufN k1 p1 z1 n) (ufB k1 p1 z1 n) w) := by
  have hr := hr0.std
  clear hr0
  have bK := (Bk.new w 52 #[.int .i64 k1, .int .i64 p1, .slice A1 z1.length c1]).alloc (.cells #[.int .i64 0, .int .i64 0, .slice none 0 0] 52)
  have bZ := Bk.new2 w (.cells #[.int .i64 k1, .int .i64 p1, .slice A1 z1.length c1] 52) 52 #[.int .i64 0, .int .i64 0, .slice none 0 0]
  have hB := ((Below.refl w.heap.size w).alloc (Nat.le_refl _) (.cells #[.int .i64 k1, .int .i64 p1, .slice A1 z1.length c1] 52)).alloc (by simp) (.cells #[.int .i64 0, .int .i64 0, .slice none 0 0] 52)
  cases q : kbB k1 p1 z1 with
  | false =>
    have hb : ufB k1 p1 z1 n = false := by simp [ufB, q]
    obtain ⟨e1, e2, e3, e4⟩ := uf_no hb
    rw [e1, e2, e3, e4, hb]
    clear e1 e2 e3 e4 hb
    go_enter Try.func72, Try.ntmps72
    go_wp2_with fail
    (with_reducible refine (iIsKeyBook_v k1 p1 z1 A1 c1 _ ((hr.alloc _).alloc _) (by omega) _ q).mono ?_)
    rintro e w1 ⟨rfl, hb1⟩
    have s1 : w.heap.size + 2 ≤ w1.heap.size := by have := hb1.size; simpa using this
    have hB1 := hB.trans (hb1.mono (by simp; omega))
    have bK1 := bK.st hb1
    have bZ1 := bZ.st hb1
    have y0 := bK1.cell 0
    have y1 := bK1.cell 1
    have y2 := bK1.cell 2
    have t0 := bZ1.cell 0
    have t1 := bZ1.cell 1
    have t2 := bZ1.cell 2
    have f0 := bZ1.frozen 0
    have f1 := bZ1.frozen 1
    have f2 := bZ1.frozen 2
    simp at y0 y1 y2 t0 t1 t2
    have hr3 := ((hr.alloc (.cells #[.int .i64 k1, .int .i64 p1, .slice A1 z1.length c1] 52)).alloc (.cells #[.int .i64 0, .int .i64 0, .slice none 0 0] 52)).st hb1
    clear bK bZ hB hb1
    go_wp2_with fail
    refine bodyPost_ret (v := .tuple #[.agg #[.int .i64 0, .int .i64 0, .slice none 0 0], .slice none 0 0, .bool false]) (by simp [results, Try.results72, go_sem, t0, t1, t2]) rfl ?_
    exact TwoOwn.no rfl (((hB1.setCell (by dsimp only; omega) _).setCell (by dsimp only; omega) _).setCell (by dsimp only; omega) _)
  | true =>
    cases q2 : inB n 0 1200 with
    | false =>
      have hb : ufB k1 p1 z1 n = false := by simp [ufB, q2]
      obtain ⟨e1, e2, e3, e4⟩ := uf_no hb
      rw [e1, e2, e3, e4, hb]
      clear e1 e2 e3 e4 hb
      go_enter Try.func72, Try.ntmps72
      go_wp2_with fail
      (with_reducible refine (iIsKeyBook_v k1 p1 z1 A1 c1 _ ((hr.alloc _).alloc _) (by omega) _ q).mono ?_)
      rintro e w1 ⟨rfl, hb1⟩
      have s1 : w.heap.size + 2 ≤ w1.heap.size := by have := hb1.size; simpa using this
      have hB1 := hB.trans (hb1.mono (by simp; omega))
      have bK1 := bK.st hb1
      have bZ1 := bZ.st hb1
      have y0 := bK1.cell 0
      have y1 := bK1.cell 1
      have y2 := bK1.cell 2
      have t0 := bZ1.cell 0
      have t1 := bZ1.cell 1
      have t2 := bZ1.cell 2
      have f0 := bZ1.frozen 0
      have f1 := bZ1.frozen 1
      have f2 := bZ1.frozen 2
      simp at y0 y1 y2 t0 t1 t2
      have hr3 := ((hr.alloc (.cells #[.int .i64 k1, .int .i64 p1, .slice A1 z1.length c1] 52)).alloc (.cells #[.int .i64 0, .int .i64 0, .slice none 0 0] 52)).st hb1
      clear bK bZ hB hb1
      go_wp2_with (go_at_call 86; (with_reducible refine (within_w _ _ _ _ _ q2).mono ?_); rintro e w' ⟨rfl, rfl⟩)
      refine bodyPost_ret (v := .tuple #[.agg #[.int .i64 0, .int .i64 0, .slice none 0 0], .slice none 0 0, .bool false]) (by simp [results, Try.results72, go_sem, t0, t1, t2]) rfl ?_
      exact TwoOwn.no rfl (((hB1.setCell (by dsimp only; omega) _).setCell (by dsimp only; omega) _).setCell (by dsimp only; omega) _)
    | true =>
      have hn := inB_iff.1 q2
      obtain ⟨hm, hm60, hm1, hm2⟩ := uf_m hn.1 hn.2
      have hfin := Lib.hid (show ufB k1 p1 z1 n = decide ((z1.length : Int) + (ufM n : Int) ≤ p1) by simp [ufB, q, q2])
      obtain ⟨m, hmm⟩ : ∃ m : Nat, m = ufM n := ⟨_, rfl⟩
      have hmmH := Lib.hid hmm
      rw [← hmm] at hm hm60 hm1 hm2
      have hp := (kb_facts q).2.1
      have hln := kb_len q
      have hiter := kb_iter q
      have hiterH := Lib.hid hiter
      clear hmm hiter hm1 hm2
      go_enter Try.func72, Try.ntmps72
      go_wp2_with fail
      (with_reducible refine (iIsKeyBook_v k1 p1 z1 A1 c1 _ ((hr.alloc _).alloc _) (by omega) _ q).mono ?_)
      rintro e w1 ⟨rfl, hb1⟩
      have s1 : w.heap.size + 2 ≤ w1.heap.size := by have := hb1.size; simpa using this
      have hB1 := hB.trans (hb1.mono (by simp; omega))
      have bK1 := bK.st hb1
      have bZ1 := bZ.st hb1
      have y0 := bK1.cell 0
      have y1 := bK1.cell 1
      have y2 := bK1.cell 2
      have t0 := bZ1.cell 0
      have t1 := bZ1.cell 1
      have t2 := bZ1.cell 2
      have f0 := bZ1.frozen 0
      have f1 := bZ1.frozen 1
      have f2 := bZ1.frozen 2
      simp at y0 y1 y2 t0 t1 t2
      have hr3 := ((hr.alloc (.cells #[.int .i64 k1, .int .i64 p1, .slice A1 z1.length c1] 52)).alloc (.cells #[.int .i64 0, .int .i64 0, .slice none 0 0] 52)).st hb1
      clear bK bZ hB hb1
      go_wp2_with (first | (go_at_call 86; (with_reducible refine (within_w _ _ _ _ _ q2).mono ?_); rintro e w' ⟨rfl, rfl⟩) | (fail))
      (with_reducible refine (Clone_any z1 A1 c1 _ hr3 (by omega)).mono ?_)
      rintro e w2 ⟨v2, rfl, o2, hb2⟩
      have s2 : w1.heap.size ≤ w2.heap.size := hb2.size
      obtain ⟨A2, c2, rfl, _, _⟩ := o2.rd
      have bK2 := bK1.st hb2
      have bZ2 := bZ1.st hb2
      have hB2 := hB1.trans (hb2.mono (by omega))
      have z0 := bK2.cell 0
      have z1' := bK2.cell 1
      have z2 := bK2.cell 2
      have g0 := bK2.frozen 0
      have g1 := bK2.frozen 1
      have g2 := bK2.frozen 2
      simp at z0 z1' z2
      have hl2 := bK2.lt
      have bK3 : Bk (w2.setCell ⟨w.heap.size, 2, none⟩ (.slice A2 z1.length c2)) w.heap.size 52 #[.int .i64 k1, .int .i64 p1, .slice A2 z1.length c2] := by simpa using bK2.set_ 2 (.slice A2 z1.length c2)
      have bZ3 := bZ2.far (p := ⟨w.heap.size, 2, none⟩) (by dsimp only; omega) (.slice A2 z1.length c2)
      have o3 := (o2.setCell (p := ⟨w.heap.size, 2, none⟩) (.inl (by dsimp only; omega)) (.slice A2 z1.length c2))
      have hB3 := hB2.setCell (p := ⟨w.heap.size, 2, none⟩) (Nat.le_refl _) (.slice A2 z1.length c2)
      clear y0 y1 y2 t0 t1 t2 f0 f1 f2 bK1 bZ1 bK2 bZ2 hb2 o2 hB1 hB2 hr3
      go_wp2
      clear z0 z1' z2 g0 g1 g2
      simp only [hm]
      go_loopw [7, 8, 9, 10, 28] (fun v _ _ _ x wr => ∃ i : Nat, i ≤ m ∧ x = .int .i64 i ∧ (z1.length : Int) + (i : Int) ≤ p1 ∧ ∃ A c l h, Bk wr w.heap.size 52 #[.int .i64 k1, .int .i64 p1, .slice A (ufU z1 i).length c] ∧
          Own wr l h (.slice A (ufU z1 i).length c) (ufU z1 i) ∧ w.heap.size + 2 ≤ l ∧ h ≤ wr.heap.size ∧ Own wr (w.heap.size + 2) wr.heap.size v (ufP z1 i) ∧ Dj (.slice A (ufU z1 i).length c) v ∧
          Bk wr (w.heap.size + 1) 52 #[.int .i64 0, .int .i64 0, .slice none 0 0] ∧ Below w.heap.size w wr ∧ w.heap.size + 2 ≤ wr.heap.size) (fun _ _ _ _ i _ => m - (intOf i).toNat)
      case atStart => exact ⟨0, Nat.zero_le _, rfl, by omega, A2, c2, w1.heap.size, w2.heap.size, bK3, o3, by omega, by simp, Own.nil, dj_nil _, bZ3, hB3, by simp; omega⟩
      case round =>
        obtain ⟨i, hi, rfl, hip, A, c, l1, h1, bK4, o4, hl1, hh1, oP, hdj, bZ4, hB4, hs4⟩ := hrel
        obtain ⟨hk, hlen⟩ := hiterH.out i hip
        have hpl := Lib.hid (ufP_len z1 i)
        have y0 := bK4.cell 0
        have y1 := bK4.cell 1
        have y2 := bK4.cell 2
        simp at y0 y1 y2
        have hlK := bK4.lt
        have hlZ := bZ4.lt
        have hlenH := Lib.hid hlen
        have hl6 : (ufU z1 i).length ≤ 1048575 := by omega
        by_cases hlt : i < m
        · by_cases hf : (z1.length : Int) + (i : Int) = p1
          · have hun : unB k1 p1 (ufU z1 i) = false := by simp [unB, hlen]; omega
            have hb : ufB k1 p1 z1 n = false := by rw [hfin.out, ← hmmH.out]; simp; omega
            have hno := Lib.hid (uf_no hb)
            have hbH := Lib.hid hb
            clear hb hlen
            go_wp2_with fail
            (with_reducible refine (iUseNext_no k1 p1 (ufU z1 i) A c _ o4 (by omega) hun).mono ?_)
            rintro e w5 ⟨A5, c5, rfl, hb5⟩
            have s5 : wr.heap.size ≤ w5.heap.size := hb5.size
            have bZb := (bZ4.st hb5).alloc (.cells #[.int .i64 0, .int .i64 0, .slice A5 0 c5] 52)
            have ka := Bk.new w5 52 #[.int .i64 0, .int .i64 0, .slice none 0 0]
            have e0 := ka.cell 0
            have e1 := ka.cell 1
            have e2 := ka.cell 2
            have g0 := ka.frozen 0
            have g1 := ka.frozen 1
            have g2 := ka.frozen 2
            have t0 := bZb.cell 0
            have t1 := bZb.cell 1
            have t2 := bZb.cell 2
            have f0 := bZb.frozen 0
            have f1 := bZb.frozen 1
            have f2 := bZb.frozen 2
            simp at t0 t1 t2 e0 e1 e2
            have hB5 := Lib.hid ((hB4.trans (hb5.mono (by omega))).alloc (by omega) (.cells #[.int .i64 0, .int .i64 0, .slice A5 0 c5] 52))
            clear bZb ka bK4 bZ4 hb5 y0 y1 y2 o4 oP hdj hB4
            go_wp2_with fail
            refine bodyPost_ret (v := .tuple #[.agg #[.int .i64 0, .int .i64 0, .slice none 0 0], .slice none 0 0, .bool false]) (by simp [results, Try.results72, go_sem, t0, t1, t2]) rfl ?_
            rw [hno.out.1, hno.out.2.1, hno.out.2.2.1, hno.out.2.2.2, hbH.out]
            exact TwoOwn.no rfl (((hB5.out.setCell (by dsimp only; omega) _).setCell (by dsimp only; omega) _).setCell (by dsimp only; omega) _)
          · have hun : unB k1 p1 (ufU z1 i) = true := by simp [unB, hk, hlen]; omega
            obtain ⟨L, hL⟩ : ∃ L, putL (ufU z1 i) (pfx (ufU z1 i)) = L := ⟨_, rfl⟩
            obtain ⟨u, hu⟩ : ∃ u : Int, (pfx (ufU z1 i) : Int) = u := ⟨_, rfl⟩
            have hUL := Lib.hid (show ufU z1 (i + 1) = L from hL)
            have hPL := Lib.hid (show ufP z1 (i + 1) = ufP z1 i ++ [u] by rw [ufP_succ, hu])
            have hLn := hiterH.out (i + 1) (by omega)
            rw [hUL.out] at hLn
            have hLl := Lib.hid hLn.2
            have hLm : L.length ≤ 1048576 := by rw [hLn.2]; omega
            clear hlen hLn
            go_wp2_with fail
            (with_reducible refine (iUseNext_yes k1 p1 (ufU z1 i) A c _ o4 (by omega) hun L hL u hu).mono ?_)
            rintro e w5 ⟨A5, c5, rfl, o5, hb5⟩
            have s5 : wr.heap.size ≤ w5.heap.size := hb5.size
            have ka := Bk.new w5 52 #[.int .i64 0, .int .i64 0, .slice none 0 0]
            have e0 := ka.cell 0
            have e1 := ka.cell 1
            have e2 := ka.cell 2
            have g0 := ka.frozen 0
            have g1 := ka.frozen 1
            have g2 := ka.frozen 2
            have kb := Bk.new w5 52 #[.int .i64 k1, .int .i64 p1, .slice A5 L.length c5]
            have v0 := kb.cell 0
            have v1 := kb.cell 1
            have v2 := kb.cell 2
            have kK := (bK4.st hb5).alloc (.cells #[.int .i64 k1, .int .i64 p1, .slice A5 L.length c5] 52)
            have x0 := kK.cell 0
            have x1 := kK.cell 1
            have x2 := kK.cell 2
            have n0 := kK.frozen 0
            have n1 := kK.frozen 1
            have n2 := kK.frozen 2
            simp at e0 e1 e2 v0 v1 v2 x0 x1 x2
            have kKc := kK.put3 (.int .i64 k1) (.int .i64 p1) (.slice A5 L.length c5)
            have kZc := (((((bZ4.st hb5).alloc (.cells #[.int .i64 k1, .int .i64 p1, .slice A5 L.length c5] 52)).far (p := ⟨w.heap.size, 0, none⟩) (by dsimp only; omega) (.int .i64 k1)).far (p := ⟨w.heap.size, 1, none⟩) (by dsimp only; omega) (.int .i64 p1)).far (p := ⟨w.heap.size, 2, none⟩) (by dsimp only; omega) (.slice A5 L.length c5))
            have hd5 := dj_turn (Dj.of_lt oP o5 (Nat.le_refl _))
            have o5c := ((((o5.alloc (.cells #[.int .i64 k1, .int .i64 p1, .slice A5 L.length c5] 52)).setCell (p := ⟨w.heap.size, 0, none⟩) (by dsimp only; omega) (.int .i64 k1)).setCell (p := ⟨w.heap.size, 1, none⟩) (by dsimp only; omega) (.int .i64 p1)).setCell (p := ⟨w.heap.size, 2, none⟩) (by dsimp only; omega) (.slice A5 L.length c5))
            have oPc := (((((oP.st hb5).alloc (.cells #[.int .i64 k1, .int .i64 p1, .slice A5 L.length c5] 52)).setCell (p := ⟨w.heap.size, 0, none⟩) (by dsimp only; omega) (.int .i64 k1)).setCell (p := ⟨w.heap.size, 1, none⟩) (by dsimp only; omega) (.int .i64 p1)).setCell (p := ⟨w.heap.size, 2, none⟩) (by dsimp only; omega) (.slice A5 L.length c5))
            have hBc := (((((hB4.trans (hb5.mono (by omega))).alloc (by omega) (.cells #[.int .i64 k1, .int .i64 p1, .slice A5 L.length c5] 52)).setCell (p := ⟨w.heap.size, 0, none⟩) (by first | (dsimp only; omega) | (dsimp only; simp; omega)) (.int .i64 k1)).setCell (p := ⟨w.heap.size, 1, none⟩) (by first | (dsimp only; omega) | (dsimp only; simp; omega)) (.int .i64 p1)).setCell (p := ⟨w.heap.size, 2, none⟩) (by first | (dsimp only; omega) | (dsimp only; simp; omega)) (.slice A5 L.length c5))
            have hone := Rd.one_at ((((w5.alloc (.cells #[.int .i64 k1, .int .i64 p1, .slice A5 L.length c5] 52)).setCell ⟨w.heap.size, 0, none⟩ (.int .i64 k1)).setCell ⟨w.heap.size, 1, none⟩ (.int .i64 p1)).setCell ⟨w.heap.size, 2, none⟩ (.slice A5 L.length c5)) (w5.heap.size + 1) (by simp) #[.int .i64 u] 3 [u] rfl
            clear ka kb kK bK4 bZ4 hb5 y0 y1 y2 o4 hdj hB4
            go_wp2_with (at_builtin; refine wp_append_ints rfl (.tmp 40) (.tmp 42) rfl rfl (oPc.alloc _) (ys := [u]) rfl hone (by rw [hpl.out]; simp; omega) (by simp; omega) ?_; intro v6 w6 o6 g6 b6 at6)
            have s6 : w5.heap.size + 2 ≤ w6.heap.size := by have := g6.size; simpa using this
            have kK6 := Lib.hid ((kKc.alloc _).below b6 (by omega))
            have kZ6 := Lib.hid ((kZc.alloc _).below b6 (by omega))
            have hB6 := Lib.hid ((hBc.alloc (by simp; omega) _).trans (b6.mono (by omega)))
            have o56 := Lib.hid ((o5c.alloc _).grown g6 hd5.row)
            have hd6 := Lib.hid (hd5.grown at6 (fun k hk => by have := (o5.lt k hk).2.2; simp; omega))
            have o6H := Lib.hid o6
            clear kKc kZc hBc o5c oPc hd5 o6 g6 b6 at6 oP o5
            go_roundw
            case rel => exact ⟨i + 1, by omega, by go_num, by push_cast; omega, A5, c5, wr.heap.size, w5.heap.size, by rw [hUL.out]; exact kK6.out, by rw [hUL.out]; exact o56.out, by omega, by omega, by rw [hPL.out]; exact o6H.out, by rw [hUL.out]; exact hd6.out, kZ6.out, hB6.out, by omega⟩
            case measure => simp [intOf]; omega
        · obtain rfl : i = m := by omega
          have hb : ufB k1 p1 z1 n = true := by rw [hfin.out, ← hmmH.out]; simp; omega
          have hys := Lib.hid (uf_yes hb)
          have hbH := Lib.hid hb
          have t0 := bZ4.cell 0
          have t1 := bZ4.cell 1
          have t2 := bZ4.cell 2
          have f0 := bZ4.frozen 0
          have f1 := bZ4.frozen 1
          have f2 := bZ4.frozen 2
          simp at t0 t1 t2
          obtain ⟨B, d, rfl, -, -⟩ := oP.rd
          have o4H := Lib.hid ((((o4.setCell (p := ⟨(w.heap.size + 1), 0, none⟩) (by dsimp only; omega) (.int .i64 k1)).setCell (p := ⟨(w.heap.size + 1), 1, none⟩) (by dsimp only; omega) (.int .i64 p1)).setCell (p := ⟨(w.heap.size + 1), 2, none⟩) (by dsimp only; omega) (.slice A (ufU z1 i).length c)))
          have oPH := Lib.hid ((((oP.setCell (p := ⟨(w.heap.size + 1), 0, none⟩) (by dsimp only; omega) (.int .i64 k1)).setCell (p := ⟨(w.heap.size + 1), 1, none⟩) (by dsimp only; omega) (.int .i64 p1)).setCell (p := ⟨(w.heap.size + 1), 2, none⟩) (by dsimp only; omega) (.slice A (ufU z1 i).length c)))
          have hdH := Lib.hid hdj
          clear hb bK4 bZ4 o4 oP hdj hlen
          go_wp2_with fail
          refine bodyPost_ret (v := .tuple #[.agg #[.int .i64 k1, .int .i64 p1, .slice A (ufU z1 i).length c], .slice B (ufP z1 i).length d, .bool true]) (by simp [results, Try.results72, go_sem, t0, t1, t2]) rfl ?_
          rw [hys.out.1, hys.out.2.1, hys.out.2.2.1, hys.out.2.2.2, hbH.out, ← hmmH.out]
          obtain ⟨a1, b1, a2, b2, q1, q2', p1', p2, p3, p4, p5⟩ := own_pair (lo := w.heap.size + 2) (hi := wr.heap.size) (o4H.out.mono hl1 hh1) oPH.out hdH.out
          have hmx : max (w.heap.size + 2) wr.heap.size = wr.heap.size := Nat.max_eq_right hs4
          rw [hmx] at p2 p4
          refine ⟨A, c, B, d, a1, b1, a2, b2, rfl, q1, q2', ⟨by omega, by simp; omega, by omega, by simp; omega, p5⟩, by omega, by rw [hpl.out]; omega, ?_⟩
          exact ((hB4.setCell (by dsimp only; omega) _).setCell (by dsimp only; omega) _).setCell (by dsimp only; omega) _
end Go.Proofs.Yteajjbfecpffeaa
