/-
  Contracts of UsePage, in the reference and in the program, and of the statements' marks on key books. The conditions are bounds on lengths.
-/
import Derived.Test.YteajjbfecpffeaaUse
import Derived.Test.YteajjbfecpffeaaHide
import Derived.Test.YteajjbfecpffeaaLawKit
namespace Go.Proofs.Yteajjbfecpffeaa
open Go.RowKit Go.ChangeShapes Go.WideShapes
set_option linter.unusedVariables false
set_option linter.unusedSimpArgs false

theorem Own.addr_ {w : World} {lo hi n c : Nat} {A : Option Addr} {zs : List Int} (h : Own w lo hi (.slice A n c) zs) : (A = none ∧ c = 0) ∨ ∃ b off, A = some ⟨b, off, none⟩ := by
  rcases h.1.2 with ⟨e, _⟩ | ⟨g, cap, cur, e, _⟩
  · injection e with e1 e2 e3
    exact .inl ⟨e1, e3⟩
  · injection e with e1 e2 e3
    exact .inr ⟨g, 0, e1⟩
theorem Own.capM {w : World} {lo hi n c : Nat} {A : Option Addr} {zs : List Int} (h : Own w lo hi (.slice A n c) zs) : c ≤ 9223372036854775807 := by
  obtain ⟨A', c', e, _, hc⟩ := h.rd
  injection e with e1 e2 e3
  subst e3
  simpa [maxLen] using hc
theorem l1Has_v (zs : List Int) (A : Option Addr) (c : Nat) {l h : Nat} (n : Int) (w : World) (hr : Rd w l h A zs) (hl : zs.length ≤ 9223372036854775807) (v : Bool) (hv : hasB zs n = v) :
    Calls Try.prog 84 #[.slice A zs.length c, .int .i64 n] w fun e w' => e = .returned (.bool v) ∧ w = w' := by
  rw [← hv]; exact l1Has_any zs A c n w hr hl
theorem Contains_v (zs : List Int) (A : Option Addr) (c : Nat) {l h : Nat} (n : Int) (w : World) (hr : Rd w l h A zs) (hl : zs.length ≤ 9223372036854775807) (v : Bool) (hv : hasB zs n = v) :
    Calls Try.prog 120 #[.slice A zs.length c, .int .i64 n] w fun e w' => e = .returned (.bool v) ∧ w = w' := by
  rw [← hv]; exact Contains_any zs A c n w hr hl


set_option maxHeartbeats 2000000 in
theorem iUsePage_any (k1 p1 : Int) (z1 : List Int) (A1 : Option Addr) (c1 : Nat) (page : Int) {l h : Nat} (w : World) (ho0 : Own w l h (.slice A1 z1.length c1) z1) (hl : z1.length ≤ 1048576) :
    Calls Try.prog 81 #[.agg #[.int .i64 k1, .int .i64 p1, .slice A1 z1.length c1], .int .i64 page] w fun e w' => ∃ A c, e = .returned (.tuple #[.agg #[.int .i64 (upK k1 p1 z1 page), .int .i64 (upP k1 p1 z1 page), .slice A (upL k1 p1 z1 page).length c], .bool (upB k1 p1 z1 page)]) ∧
      Own w' w.heap.size w'.heap.size (.slice A (upL k1 p1 z1 page).length c) (upL k1 p1 z1 page) ∧ (upL k1 p1 z1 page).length ≤ 1048576 ∧ Below w.heap.size w w' := by
  have hr := ho0.rd'.std
  have hcap := ho0.len.2
  have hcM := ho0.capM
  have hA := ho0.addr_
  have hr2 : Rd ((w.alloc (.cells #[.int .i64 k1, .int .i64 p1, .slice A1 z1.length c1] 52)).alloc (.cells #[.int .i64 0, .int .i64 0, .slice none 0 0] 52)) 0 w.heap.size A1 z1 := (hr.alloc _).alloc _
  have bK := (Bk.new w 52 #[.int .i64 k1, .int .i64 p1, .slice A1 z1.length c1]).alloc (.cells #[.int .i64 0, .int .i64 0, .slice none 0 0] 52)
  have bZ := Bk.new2 w (.cells #[.int .i64 k1, .int .i64 p1, .slice A1 z1.length c1] 52) 52 #[.int .i64 0, .int .i64 0, .slice none 0 0]
  have hB := ((Below.refl w.heap.size w).alloc (Nat.le_refl _) (.cells #[.int .i64 k1, .int .i64 p1, .slice A1 z1.length c1] 52)).alloc (by simp) (.cells #[.int .i64 0, .int .i64 0, .slice none 0 0] 52)
  clear ho0
  cases q : pgB k1 p1 z1 page with
  | false =>
    have hvf := Lib.hid (show upB k1 p1 z1 page = false by unfold upB; rw [show (kbB k1 p1 z1 && inB page 0 (p1 - 1)) = false from q]; rfl)
    have hno := Lib.hid (up_no hvf.out)
    go_enter Try.func81, Try.ntmps81
    go_wp2_with fail
    (with_reducible refine (isPage_v k1 p1 z1 A1 c1 page _ hr2 (by omega) _ q).mono ?_)
    rintro e w1 ⟨rfl, hb1⟩
    have s1 : w.heap.size + 2 ≤ w1.heap.size := by have := hb1.size; simpa using this
    have hB1 := hB.trans (hb1.mono (by simp; omega))
    have bK1 := bK.st hb1
    have bZ1 := bZ.st hb1
    have y0 := bK1.cell 0
    have y1 := bK1.cell 1
    have y2 := bK1.cell 2
    have t0 := bZ1.cell 0
    have t1 := bZ1.cell 1
    have t2 := bZ1.cell 2
    have f0 := bZ1.frozen 0
    have f1 := bZ1.frozen 1
    have f2 := bZ1.frozen 2
    simp at y0 y1 y2 t0 t1 t2
    have hr3 := hr2.st hb1
    clear bK1 bZ1 bK bZ hB hr3 hr2
    go_wp2_with fail
    refine bodyPost_ret (v := .tuple #[.agg #[.int .i64 0, .int .i64 0, .slice none 0 0], .bool false]) (by simp [results, Try.results81, go_sem, t0, t1, t2]) rfl ?_
    refine ⟨none, 0, by rw [hno.out.1, hno.out.2.1, hno.out.2.2, hvf.out]; rfl, by rw [hno.out.2.2]; exact Own.nil, by rw [hno.out.2.2]; simp, ?_⟩
    exact ((hB1.setCell (by dsimp only; omega) _).setCell (by dsimp only; omega) _).setCell (by dsimp only; omega) _
  | true =>
    cases q2 : hasB z1 page with
    | true =>
      have hvf := Lib.hid (show upB k1 p1 z1 page = false by unfold upB; rw [q2]; simp)
      have hno := Lib.hid (up_no hvf.out)
      go_enter Try.func81, Try.ntmps81
      go_wp2_with fail
      (with_reducible refine (isPage_v k1 p1 z1 A1 c1 page _ hr2 (by omega) _ q).mono ?_)
      rintro e w1 ⟨rfl, hb1⟩
      have s1 : w.heap.size + 2 ≤ w1.heap.size := by have := hb1.size; simpa using this
      have hB1 := hB.trans (hb1.mono (by simp; omega))
      have bK1 := bK.st hb1
      have bZ1 := bZ.st hb1
      have y0 := bK1.cell 0
      have y1 := bK1.cell 1
      have y2 := bK1.cell 2
      have t0 := bZ1.cell 0
      have t1 := bZ1.cell 1
      have t2 := bZ1.cell 2
      have f0 := bZ1.frozen 0
      have f1 := bZ1.frozen 1
      have f2 := bZ1.frozen 2
      simp at y0 y1 y2 t0 t1 t2
      have hr3 := hr2.st hb1
      clear bK1 bZ1 bK bZ hB hr2
      go_wp2_with (go_at_call 120; (with_reducible refine (Contains_v z1 A1 c1 page _ hr3 (by omega) _ q2).mono ?_); rintro e w' ⟨rfl, rfl⟩)
      refine bodyPost_ret (v := .tuple #[.agg #[.int .i64 0, .int .i64 0, .slice none 0 0], .bool false]) (by simp [results, Try.results81, go_sem, t0, t1, t2]) rfl ?_
      refine ⟨none, 0, by rw [hno.out.1, hno.out.2.1, hno.out.2.2, hvf.out]; rfl, by rw [hno.out.2.2]; exact Own.nil, by rw [hno.out.2.2]; simp, ?_⟩
      exact ((hB1.setCell (by dsimp only; omega) _).setCell (by dsimp only; omega) _).setCell (by dsimp only; omega) _
    | false =>
      have hvt : upB k1 p1 z1 page = true := by unfold upB; rw [show (kbB k1 p1 z1 && inB page 0 (p1 - 1)) = true from q, q2]; rfl
      have hyes := Lib.hid (up_yes hvt)
      have hvtH := Lib.hid hvt
      have hkb : kbB k1 p1 z1 = true := by simp only [pgB, Bool.and_eq_true] at q; exact q.1
      have hl60 : z1.length ≤ 60 := by have := kb_len hkb; have := (kb_facts hkb).2.1; omega
      have hpl := putL_len z1 page
      have hsort := Lib.hid (sort_put (kb_facts hkb).2.2.1 (n := page) (by simpa [hasB] using q2))
      clear hvt
      go_enter Try.func81, Try.ntmps81
      go_wp2_with fail
      (with_reducible refine (isPage_v k1 p1 z1 A1 c1 page _ hr2 (by omega) _ q).mono ?_)
      rintro e w1 ⟨rfl, hb1⟩
      have s1 : w.heap.size + 2 ≤ w1.heap.size := by have := hb1.size; simpa using this
      have hB1 := hB.trans (hb1.mono (by simp; omega))
      have bK1 := bK.st hb1
      have bZ1 := bZ.st hb1
      have y0 := bK1.cell 0
      have y1 := bK1.cell 1
      have y2 := bK1.cell 2
      have t0 := bZ1.cell 0
      have t1 := bZ1.cell 1
      have t2 := bZ1.cell 2
      have f0 := bZ1.frozen 0
      have f1 := bZ1.frozen 1
      have f2 := bZ1.frozen 2
      simp at y0 y1 y2 t0 t1 t2
      have hr3 := hr2.st hb1
      clear bK bZ hB hr2
      go_wp2_with (go_at_call 120; (with_reducible refine (Contains_v z1 A1 c1 page _ hr3 (by omega) _ q2).mono ?_); rintro e w' ⟨rfl, rfl⟩)
      (with_reducible refine (usePage_any k1 p1 z1 A1 c1 page _ hr3 (by omega)).mono ?_)
      rintro e w2 ⟨A2, c2, rfl, o2, hb2⟩
      have s2 := hb2.size
      have bZ2 := bZ1.st hb2
      have hB2 := Lib.hid (hB1.trans (hb2.mono (by omega)))
      have t0 := bZ2.cell 0
      have t1 := bZ2.cell 1
      have t2 := bZ2.cell 2
      have f0 := bZ2.frozen 0
      have f1 := bZ2.frozen 1
      have f2 := bZ2.frozen 2
      simp at t0 t1 t2
      rw [hsort.out] at o2
      have hln : Hid ((putL z1 page).length = z1.length + 1) := Lib.hid (by rw [← hsort.out, srt_len]; simp)
      have hq := Lib.hid (((o2.setCell (p := ⟨w.heap.size + 1, 0, none⟩) (.inl (by dsimp only; omega)) (.int .i64 k1)).setCell (p := ⟨w.heap.size + 1, 1, none⟩) (.inl (by dsimp only; omega)) (.int .i64 p1)).setCell (p := ⟨w.heap.size + 1, 2, none⟩) (.inl (by dsimp only; omega)) (.slice A2 (z1.length + 1) c2))
      clear bK1 bZ1 bZ2 hb2 o2
      go_wp2_with fail
      refine bodyPost_ret (v := .tuple #[.agg #[.int .i64 k1, .int .i64 p1, .slice A2 (z1.length + 1) c2], .bool true]) (by simp [results, Try.results81, go_sem, t0, t1, t2]) rfl ?_
      refine ⟨A2, c2, by rw [hyes.out.1, hyes.out.2.1, hyes.out.2.2, hvtH.out, hln.out], by rw [hyes.out.2.2, hln.out]; exact hq.out.mono (by omega) (by simp only [size_setCell]; exact Nat.le_refl _), by rw [hyes.out.2.2, hln.out]; omega, ?_⟩
      exact ((hB2.out.setCell (by dsimp only; omega) _).setCell (by dsimp only; omega) _).setCell (by dsimp only; omega) _
end Go.Proofs.Yteajjbfecpffeaa
