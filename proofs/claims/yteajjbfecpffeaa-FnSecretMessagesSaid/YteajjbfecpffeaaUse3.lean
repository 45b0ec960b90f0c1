/-
  Contracts of UseNextPage, in the reference and in the program. The conditions are bounds on lengths.
-/
import Derived.Test.YteajjbfecpffeaaUse2
namespace Go.Proofs.Yteajjbfecpffeaa
open Go.RowKit Go.ChangeShapes Go.WideShapes
set_option linter.unusedVariables false
set_option linter.unusedSimpArgs false

theorem pfxFrom_le (zs : List Int) (i : Nat) : pfxFrom zs i ≤ zs.length := by
  induction zs generalizing i with
  | nil => exact Nat.le_refl _
  | cons z zs ih =>
    unfold pfxFrom
    have := ih (i + 1)
    split <;> simp <;> omega
theorem pfx_le (zs : List Int) : pfx zs ≤ zs.length := pfxFrom_le zs 0
theorem hasB_mem_no {zs : List Int} {n : Int} (h : n ∉ zs) : hasB zs n = false := by simp [hasB, h]
theorem kyGood_v (k1 p1 : Int) (z1 : List Int) (A1 : Option Addr) (c1 : Nat) {l h : Nat} (w : World) (hr : Rd w l h A1 z1) (hl : z1.length ≤ 1048576) (v : Bool) (hv : kbB k1 p1 z1 = v) :
    Calls Try.prog 112 #[.agg #[.int .i64 k1, .int .i64 p1, .slice A1 z1.length c1]] w fun e w' => e = .returned (.bool v) ∧ Below w.heap.size w w' := by
  rw [← hv]; exact kyGood_any k1 p1 z1 A1 c1 w hr (by omega)
theorem iIsKeyBook_v (k1 p1 : Int) (z1 : List Int) (A1 : Option Addr) (c1 : Nat) {l h : Nat} (w : World) (hr : Rd w l h A1 z1) (hl : z1.length ≤ 1048576) (v : Bool) (hv : kbB k1 p1 z1 = v) :
    Calls Try.prog 85 #[.agg #[.int .i64 k1, .int .i64 p1, .slice A1 z1.length c1]] w fun e w' => e = .returned (.bool v) ∧ Below w.heap.size w w' := by
  rw [← hv]; exact iIsKeyBook_any k1 p1 z1 A1 c1 w hr (by omega)
set_option maxHeartbeats 2000000 in
theorem kyFree_v (k1 p1 : Int) (z1 : List Int) (A1 : Option Addr) (c1 : Nat) {l h : Nat} (w : World) (hr0 : Rd w l h A1 z1) (hl : z1.length ≤ 1048576) (hkb : kbB k1 p1 z1 = true) (v : Int) (hv : (pfx z1 : Int) = v) :
    Calls Try.prog 113 #[.agg #[.int .i64 k1, .int .i64 p1, .slice A1 z1.length c1]] w fun e w' => e = .returned (.int .i64 v) ∧ Below w.heap.size w w' := by
  subst hv
  have hr := hr0.std
  clear hr0
  obtain ⟨_, hp, hpw, hbd⟩ := kb_facts hkb
  have hln := kb_len hkb
  have hpwH := Lib.hid hpw
  have hbdH := Lib.hid hbd
  clear hpw hbd
  go_enter Try.func113, Try.ntmps113
  go_wp2
  go_loopw [3] (fun n wr => ∃ k : Nat, k ≤ z1.length ∧ n = .int .i64 k ∧ (∀ j (h : j < z1.length), j < k → z1[j] = (j : Int)) ∧ Bk wr w.heap.size 52 #[.int .i64 k1, .int .i64 p1, .slice A1 z1.length c1] ∧ Below w.heap.size w wr) (fun n _ => z1.length - (intOf n).toNat)
  case atStart => exact ⟨0, Nat.zero_le _, rfl, fun j _ h => absurd h (by omega), Bk.new w _ _, (Below.refl _ _).alloc (Nat.le_refl _) _⟩
  case round =>
    obtain ⟨k, hk, rfl, hall, hbk, hbr⟩ := hrel
    have hallH := Lib.hid hall
    clear hall
    have y1 := hbk.cell 1
    have y2 := hbk.cell 2
    simp at y1 y2
    have hr2 := hr.below hbr (Nat.le_refl _)
    by_cases he : ∃ h : k < z1.length, z1[k] = (k : Int)
    · obtain ⟨hlt, heq⟩ := he
      have hb := hbdH.out k hlt
      have hq := hasB_at hlt heq
      have heqH := Lib.hid heq
      clear heq
      rw [heqH.out] at hb
      go_wp2_with (go_at_call 84; (with_reducible refine (l1Has_v z1 A1 c1 (k : Int) _ hr2 (by omega) _ hq).mono ?_); rintro e w' ⟨rfl, rfl⟩)
      go_roundw
      case rel => exact ⟨k + 1, by omega, by go_num, fun j h hj => by
        by_cases e : j = k
        · subst e; exact heqH.out
        · exact hallH.out j h (by omega), hbk, hbr⟩
      case measure => simp [intOf]; omega
    · have hne : ∀ (h : k < z1.length), z1[k] ≠ (k : Int) := fun h e => he ⟨h, e⟩
      have hp0 := Lib.hid (pfx_at hk hallH.out hne)
      have hq := hasB_mem_no (pfx_free hpwH.out (fun j h => (hbdH.out j h).1) hk hallH.out hne)
      clear he hne
      by_cases hkp : (k : Int) < p1
      · go_wp2_with (go_at_call 84; (with_reducible refine (l1Has_v z1 A1 c1 (k : Int) _ hr2 (by omega) _ hq).mono ?_); rintro e w' ⟨rfl, rfl⟩)
        go_ret
        exact ⟨by rw [hp0.out]; rfl, hbr⟩
      · go_wp2
        go_ret
        exact ⟨by rw [hp0.out]; rfl, hbr⟩
set_option maxHeartbeats 2000000 in
theorem iUseNextPage_any (k1 p1 : Int) (z1 : List Int) (A1 : Option Addr) (c1 : Nat) {l h : Nat} (w : World) (ho0 : Own w l h (.slice A1 z1.length c1) z1) (hl : z1.length ≤ 1048576) :
    Calls Try.prog 109 #[.agg #[.int .i64 k1, .int .i64 p1, .slice A1 z1.length c1]] w fun e w' => ∃ A c, e = .returned (.tuple #[.agg #[.int .i64 (unK k1 p1 z1), .int .i64 (unP k1 p1 z1), .slice A (unL k1 p1 z1).length c], .int .i64 (unV k1 p1 z1), .bool (unB k1 p1 z1)]) ∧
      Own w' w.heap.size w'.heap.size (.slice A (unL k1 p1 z1).length c) (unL k1 p1 z1) ∧ (unL k1 p1 z1).length ≤ 1048576 ∧ Below w.heap.size w w' := by
  have hr := ho0.rd'.std
  have hr2 : Rd ((w.alloc (.cells #[.int .i64 k1, .int .i64 p1, .slice A1 z1.length c1] 52)).alloc (.cells #[.int .i64 0, .int .i64 0, .slice none 0 0] 52)) 0 w.heap.size A1 z1 := (hr.alloc _).alloc _
  have bK := (Bk.new w 52 #[.int .i64 k1, .int .i64 p1, .slice A1 z1.length c1]).alloc (.cells #[.int .i64 0, .int .i64 0, .slice none 0 0] 52)
  have bZ := Bk.new2 w (.cells #[.int .i64 k1, .int .i64 p1, .slice A1 z1.length c1] 52) 52 #[.int .i64 0, .int .i64 0, .slice none 0 0]
  have hB := ((Below.refl w.heap.size w).alloc (Nat.le_refl _) (.cells #[.int .i64 k1, .int .i64 p1, .slice A1 z1.length c1] 52)).alloc (by simp) (.cells #[.int .i64 0, .int .i64 0, .slice none 0 0] 52)
  clear ho0
  cases q : kbB k1 p1 z1 with
  | false =>
    have hvf := Lib.hid (show unB k1 p1 z1 = false by simp [unB, q])
    have hno := Lib.hid (un_no hvf.out)
    go_enter Try.func109, Try.ntmps109
    go_wp2_with fail
    (with_reducible refine (iIsKeyBook_v k1 p1 z1 A1 c1 _ hr2 (by omega) _ q).mono ?_)
    rintro e w1 ⟨rfl, hb1⟩
    have s1 : w.heap.size + 2 ≤ w1.heap.size := by have := hb1.size; simpa using this
    have hB1 := hB.trans (hb1.mono (by simp; omega))
    have bK1 := bK.st hb1
    have bZ1 := bZ.st hb1
    have y0 := bK1.cell 0
    have y1 := bK1.cell 1
    have y2 := bK1.cell 2
    have t0 := bZ1.cell 0
    have t1 := bZ1.cell 1
    have t2 := bZ1.cell 2
    have f0 := bZ1.frozen 0
    have f1 := bZ1.frozen 1
    have f2 := bZ1.frozen 2
    simp at y0 y1 y2 t0 t1 t2
    have hr3 := hr2.st hb1
    clear bK1 bZ1 bK bZ hB hr3 hr2
    go_wp2_with fail
    refine bodyPost_ret (v := .tuple #[.agg #[.int .i64 0, .int .i64 0, .slice none 0 0], .int .i64 0, .bool false]) (by simp [results, Try.results109, go_sem, t0, t1, t2]) rfl ?_
    refine ⟨none, 0, by rw [hno.out.1, hno.out.2.1, hno.out.2.2.1, hno.out.2.2.2, hvf.out]; rfl, by rw [hno.out.2.2.1]; exact Own.nil, by rw [hno.out.2.2.1]; simp, ?_⟩
    exact ((hB1.setCell (by dsimp only; omega) _).setCell (by dsimp only; omega) _).setCell (by dsimp only; omega) _
  | true =>
    have hln := kb_len q
    by_cases hf : (z1.length : Int) = p1
    · have hvf := Lib.hid (show unB k1 p1 z1 = false by simp [unB, hf])
      have hno := Lib.hid (un_no hvf.out)
      have tq : ((z1.length : Int) == p1) = true := by simp [hf]
      have hfH := Lib.hid hf
      clear hf
      go_enter Try.func109, Try.ntmps109
      go_wp2_with fail
      (with_reducible refine (iIsKeyBook_v k1 p1 z1 A1 c1 _ hr2 (by omega) _ q).mono ?_)
      rintro e w1 ⟨rfl, hb1⟩
      have s1 : w.heap.size + 2 ≤ w1.heap.size := by have := hb1.size; simpa using this
      have hB1 := hB.trans (hb1.mono (by simp; omega))
      have bK1 := bK.st hb1
      have bZ1 := bZ.st hb1
      have y0 := bK1.cell 0
      have y1 := bK1.cell 1
      have y2 := bK1.cell 2
      have t0 := bZ1.cell 0
      have t1 := bZ1.cell 1
      have t2 := bZ1.cell 2
      have f0 := bZ1.frozen 0
      have f1 := bZ1.frozen 1
      have f2 := bZ1.frozen 2
      simp at y0 y1 y2 t0 t1 t2
      have hr3 := hr2.st hb1
      clear bK1 bZ1 bK bZ hB hr3 hr2
      go_wp2_with fail
      refine bodyPost_ret (v := .tuple #[.agg #[.int .i64 0, .int .i64 0, .slice none 0 0], .int .i64 0, .bool false]) (by simp [results, Try.results109, go_sem, t0, t1, t2]) rfl ?_
      refine ⟨none, 0, by rw [hno.out.1, hno.out.2.1, hno.out.2.2.1, hno.out.2.2.2, hvf.out]; rfl, by rw [hno.out.2.2.1]; exact Own.nil, by rw [hno.out.2.2.1]; simp, ?_⟩
      exact ((hB1.setCell (by dsimp only; omega) _).setCell (by dsimp only; omega) _).setCell (by dsimp only; omega) _
    · have hvt : unB k1 p1 z1 = true := by simp [unB, q, hf]
      have hyes := Lib.hid (un_yes hvt)
      have hvtH := Lib.hid hvt
      have tq : ((z1.length : Int) == p1) = false := by simp [hf]
      obtain ⟨_, hp, hpw, hbd⟩ := kb_facts q
      have hpwH := Lib.hid hpw
      have hbdH := Lib.hid hbd
      have hlz : z1.length ≤ 60 := by omega
      clear hvt hpw hbd hf
      go_enter Try.func109, Try.ntmps109
      go_wp2_with fail
      (with_reducible refine (iIsKeyBook_v k1 p1 z1 A1 c1 _ hr2 (by omega) _ q).mono ?_)
      rintro e w1 ⟨rfl, hb1⟩
      have s1 : w.heap.size + 2 ≤ w1.heap.size := by have := hb1.size; simpa using this
      have hB1 := hB.trans (hb1.mono (by simp; omega))
      have bK1 := bK.st hb1
      have bZ1 := bZ.st hb1
      have y0 := bK1.cell 0
      have y1 := bK1.cell 1
      have y2 := bK1.cell 2
      have t0 := bZ1.cell 0
      have t1 := bZ1.cell 1
      have t2 := bZ1.cell 2
      have f0 := bZ1.frozen 0
      have f1 := bZ1.frozen 1
      have f2 := bZ1.frozen 2
      simp at y0 y1 y2 t0 t1 t2
      have hr3 := hr2.st hb1
      clear bK bZ hB hr2
      go_wp2
      go_loop [5] (fun n => ∃ k : Nat, k ≤ z1.length ∧ n = .int .i64 k ∧ (∀ j (h : j < z1.length), j < k → z1[j] = (j : Int))) (fun n => z1.length - (intOf n).toNat)
      case atStart => exact ⟨0, Nat.zero_le _, rfl, fun j _ h => absurd h (by omega)⟩
      case round =>
        obtain ⟨k, hk, rfl, hall⟩ := hrel
        have hallH := Lib.hid hall
        clear hall
        by_cases he : ∃ h : k < z1.length, z1[k] = (k : Int)
        · obtain ⟨hlt, heq⟩ := he
          obtain ⟨b, off, rfl, _, _, hc⟩ := hr3 (by omega)
          have x0 := hc k hlt
          rw [heq] at x0
          have heqH := Lib.hid heq
          have te : ((k : Int) == (k : Int)) = true := by simp
          clear heq hc
          go_wp2
          go_round
          case rel => exact ⟨k + 1, by omega, by go_num, fun j h hj => by
            by_cases e : j = k
            · subst e; exact heqH.out
            · exact hallH.out j h (by omega)⟩
          case measure => simp [intOf]; omega
        · have hne : ∀ (h : k < z1.length), z1[k] ≠ (k : Int) := fun h e => he ⟨h, e⟩
          have hp0 := Lib.hid (pfx_at hk hallH.out hne)
          have hfree := Lib.hid (pfx_free hpwH.out (fun j h => (hbdH.out j h).1) hk hallH.out hne)
          have hsort := Lib.hid (sort_put hpwH.out hfree.out)
          have hneH := Lib.hid hne
          have hrrH := Lib.hid hr3
          clear he hne
          by_cases hlt : k < z1.length
          · have hrr := hr3
            obtain ⟨b, off, rfl, _, _, hc⟩ := hr3 (by omega)
            have x0 := hc k hlt
            have te : (z1[k] == (k : Int)) = false := by have := hneH.out hlt; simp [this]
            clear hc
            go_wp2_with fail
            (with_reducible refine (usePage_any k1 p1 z1 _ c1 (k : Int) _ hrrH.out (by omega)).mono ?_)
            rintro e w2 ⟨A2, c2, rfl, o2, hb2⟩
            have s2 := hb2.size
            have bZ2 := bZ1.st hb2
            have hB2 := Lib.hid (hB1.trans (hb2.mono (by omega)))
            have t0 := bZ2.cell 0
            have t1 := bZ2.cell 1
            have t2 := bZ2.cell 2
            have f0 := bZ2.frozen 0
            have f1 := bZ2.frozen 1
            have f2 := bZ2.frozen 2
            simp at t0 t1 t2
            rw [hsort.out] at o2
            have hln : Hid ((putL z1 (k : Int)).length = z1.length + 1) := Lib.hid (by rw [← hsort.out, srt_len]; simp)
            have hq := Lib.hid (((o2.setCell (p := ⟨w.heap.size + 1, 0, none⟩) (.inl (by dsimp only; omega)) (.int .i64 k1)).setCell (p := ⟨w.heap.size + 1, 1, none⟩) (.inl (by dsimp only; omega)) (.int .i64 p1)).setCell (p := ⟨w.heap.size + 1, 2, none⟩) (.inl (by dsimp only; omega)) (.slice A2 (z1.length + 1) c2))
            clear bK1 bZ1 bZ2 hb2 o2
            go_wp2_with fail
            refine bodyPost_ret (v := .tuple #[.agg #[.int .i64 k1, .int .i64 p1, .slice A2 (z1.length + 1) c2], .int .i64 (k : Int), .bool true]) (by simp [results, Try.results109, go_sem, t0, t1, t2]) rfl ?_
            refine ⟨A2, c2, by rw [hyes.out.1, hyes.out.2.1, hyes.out.2.2.1, hyes.out.2.2.2, hvtH.out, hp0.out, hln.out], by rw [hyes.out.2.2.1, hp0.out, hln.out]; exact hq.out.mono (by omega) (by simp only [size_setCell]; exact Nat.le_refl _), by rw [hyes.out.2.2.1, hp0.out, hln.out]; omega, ?_⟩
            exact ((hB2.out.setCell (by dsimp only; omega) _).setCell (by dsimp only; omega) _).setCell (by dsimp only; omega) _
          · go_wp2_with fail
            (with_reducible refine (usePage_any k1 p1 z1 _ c1 (k : Int) _ hrrH.out (by omega)).mono ?_)
            rintro e w2 ⟨A2, c2, rfl, o2, hb2⟩
            have s2 := hb2.size
            have bZ2 := bZ1.st hb2
            have hB2 := Lib.hid (hB1.trans (hb2.mono (by omega)))
            have t0 := bZ2.cell 0
            have t1 := bZ2.cell 1
            have t2 := bZ2.cell 2
            have f0 := bZ2.frozen 0
            have f1 := bZ2.frozen 1
            have f2 := bZ2.frozen 2
            simp at t0 t1 t2
            rw [hsort.out] at o2
            have hln : Hid ((putL z1 (k : Int)).length = z1.length + 1) := Lib.hid (by rw [← hsort.out, srt_len]; simp)
            have hq := Lib.hid (((o2.setCell (p := ⟨w.heap.size + 1, 0, none⟩) (.inl (by dsimp only; omega)) (.int .i64 k1)).setCell (p := ⟨w.heap.size + 1, 1, none⟩) (.inl (by dsimp only; omega)) (.int .i64 p1)).setCell (p := ⟨w.heap.size + 1, 2, none⟩) (.inl (by dsimp only; omega)) (.slice A2 (z1.length + 1) c2))
            clear bK1 bZ1 bZ2 hb2 o2
            go_wp2_with fail
            refine bodyPost_ret (v := .tuple #[.agg #[.int .i64 k1, .int .i64 p1, .slice A2 (z1.length + 1) c2], .int .i64 (k : Int), .bool true]) (by simp [results, Try.results109, go_sem, t0, t1, t2]) rfl ?_
            refine ⟨A2, c2, by rw [hyes.out.1, hyes.out.2.1, hyes.out.2.2.1, hyes.out.2.2.2, hvtH.out, hp0.out, hln.out], by rw [hyes.out.2.2.1, hp0.out, hln.out]; exact hq.out.mono (by omega) (by simp only [size_setCell]; exact Nat.le_refl _), by rw [hyes.out.2.2.1, hp0.out, hln.out]; omega, ?_⟩
            exact ((hB2.out.setCell (by dsimp only; omega) _).setCell (by dsimp only; omega) _).setCell (by dsimp only; omega) _
end Go.Proofs.Yteajjbfecpffeaa
