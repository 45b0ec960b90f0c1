/-
  Contracts and plain laws that the walk uses, several texts in one. The conditions are named ahead of each.
-/
import Derived.Test.YtjhbffndiaggmaaGreatDoorZKBUse
import Derived.Test.YtjhbffndiaggmaaGreatDoorBKB19
import Derived.Test.YtjhbffndiaggmaaGreatDoorZKBLawKit

/-
  Contracts of UsePage, in the reference and in the program, and of the statements' marks on key books. The conditions are bounds on lengths.
-/
namespace Go.Proofs.YtjhbffndiaggmaaGreatDoor
open Go.RowKit Go.ChangeShapes Go.WideShapes
set_option linter.unusedVariables false
set_option linter.unusedSimpArgs false

theorem Own.addr_ {w : World} {lo hi n c : Nat} {A : Option Addr} {zs : List Int} (h : Own w lo hi (.slice A n c) zs) : (A = none ∧ c = 0) ∨ ∃ b off, A = some ⟨b, off, none⟩ := by
  rcases h.1.2 with ⟨e, _⟩ | ⟨g, cap, cur, e, _⟩
  · injection e with e1 e2 e3
    exact .inl ⟨e1, e3⟩
  · injection e with e1 e2 e3
    exact .inr ⟨g, 0, e1⟩
theorem Own.capM {w : World} {lo hi n c : Nat} {A : Option Addr} {zs : List Int} (h : Own w lo hi (.slice A n c) zs) : c ≤ 9223372036854775807 := by
  obtain ⟨A', c', e, _, hc⟩ := h.rd
  injection e with e1 e2 e3
  subst e3
  simpa [maxLen] using hc
theorem kyHas_v (k1 p1 : Int) (z1 : List Int) (A1 : Option Addr) (c1 : Nat) (page : Int) {l h : Nat} (w : World) (hr : Rd w l h A1 z1) (hl : z1.length ≤ 1048576) (v : Bool) (hv : pgB k1 p1 z1 page = v) :
    Calls Tryz.prog 98 #[.agg #[.int .i64 k1, .int .i64 p1, .slice A1 z1.length c1], .int .i64 page] w fun e w' => e = .returned (.bool v) ∧ Below w.heap.size w w' := by
  rw [← hv]; exact kyHas_any k1 p1 z1 A1 c1 page w hr hl
theorem l1Has_v (zs : List Int) (A : Option Addr) (c : Nat) {l h : Nat} (n : Int) (w : World) (hr : Rd w l h A zs) (hl : zs.length ≤ 9223372036854775807) (v : Bool) (hv : hasB zs n = v) :
    Calls Tryz.prog 96 #[.slice A zs.length c, .int .i64 n] w fun e w' => e = .returned (.bool v) ∧ w = w' := by
  rw [← hv]; exact l1Has_any zs A c n w hr hl
theorem Contains_v (zs : List Int) (A : Option Addr) (c : Nat) {l h : Nat} (n : Int) (w : World) (hr : Rd w l h A zs) (hl : zs.length ≤ 9223372036854775807) (v : Bool) (hv : hasB zs n = v) :
    Calls Tryz.prog 87 #[.slice A zs.length c, .int .i64 n] w fun e w' => e = .returned (.bool v) ∧ w = w' := by
  rw [← hv]; exact Contains_any zs A c n w hr hl

set_option maxHeartbeats 2000000 in
theorem sUsePage_any (k1 p1 : Int) (z1 : List Int) (A1 : Option Addr) (c1 : Nat) (page : Int) {l h : Nat} (w : World) (ho0 : Own w l h (.slice A1 z1.length c1) z1) (hl : z1.length ≤ 1048576) :
    Calls Tryz.prog 26 #[.agg #[.int .i64 k1, .int .i64 p1, .slice A1 z1.length c1], .int .i64 page] w fun e w' => ∃ A c, e = .returned (.tuple #[.agg #[.int .i64 (upK k1 p1 z1 page), .int .i64 (upP k1 p1 z1 page), .slice A (upL k1 p1 z1 page).length c], .bool (upB k1 p1 z1 page)]) ∧
      Rd w' 0 w'.heap.size A (upL k1 p1 z1 page) ∧ (upL k1 p1 z1 page).length ≤ 1048576 ∧ Below w.heap.size w w' := by
  have hr := ho0.rd'.std
  have hcap := ho0.len.2
  have hcM := ho0.capM
  have hA := ho0.addr_
  have hr2 : Rd ((w.alloc (.cells #[.int .i64 k1, .int .i64 p1, .slice A1 z1.length c1] 26)).alloc (.cells #[.int .i64 0, .int .i64 0, .slice none 0 0] 26)) 0 w.heap.size A1 z1 := (hr.alloc _).alloc _
  have bK := (Bk.new w 26 #[.int .i64 k1, .int .i64 p1, .slice A1 z1.length c1]).alloc (.cells #[.int .i64 0, .int .i64 0, .slice none 0 0] 26)
  have bZ := Bk.new2 w (.cells #[.int .i64 k1, .int .i64 p1, .slice A1 z1.length c1] 26) 26 #[.int .i64 0, .int .i64 0, .slice none 0 0]
  have hB := ((Below.refl w.heap.size w).alloc (Nat.le_refl _) (.cells #[.int .i64 k1, .int .i64 p1, .slice A1 z1.length c1] 26)).alloc (by simp) (.cells #[.int .i64 0, .int .i64 0, .slice none 0 0] 26)
  clear ho0
  cases q : pgB k1 p1 z1 page with
  | false =>
    have hvf := Lib.hid (show upB k1 p1 z1 page = false by unfold upB; rw [show (kbB k1 p1 z1 && inB page 0 (p1 - 1)) = false from q]; rfl)
    have hno := Lib.hid (up_no hvf.out)
    go_enter Tryz.func26, Tryz.ntmps26
    go_wp2_with fail
    (with_reducible refine (kyHas_v k1 p1 z1 A1 c1 page _ hr2 (by omega) _ q).mono ?_)
    rintro e w1 ⟨rfl, hb1⟩
    have s1 : w.heap.size + 2 ≤ w1.heap.size := by have := hb1.size; simpa using this
    have hB1 := hB.trans (hb1.mono (by simp; omega))
    have bK1 := bK.st hb1
    have bZ1 := bZ.st hb1
    have y0 := bK1.cell 0
    have y1 := bK1.cell 1
    have y2 := bK1.cell 2
    have t0 := bZ1.cell 0
    have t1 := bZ1.cell 1
    have t2 := bZ1.cell 2
    have f0 := bZ1.frozen 0
    have f1 := bZ1.frozen 1
    have f2 := bZ1.frozen 2
    simp at y0 y1 y2 t0 t1 t2
    have hr3 := hr2.st hb1
    clear bK1 bZ1 bK bZ hB hr3 hr2
    go_wp2_with fail
    refine bodyPost_ret (v := .tuple #[.agg #[.int .i64 0, .int .i64 0, .slice none 0 0], .bool false]) (by simp [results, Tryz.results26, go_sem, t0, t1, t2]) rfl ?_
    refine ⟨none, 0, by rw [hno.out.1, hno.out.2.1, hno.out.2.2, hvf.out]; rfl, by rw [hno.out.2.2]; exact Rd.nil, by rw [hno.out.2.2]; simp, ?_⟩
    exact ((hB1.setCell (by dsimp only; omega) _).setCell (by dsimp only; omega) _).setCell (by dsimp only; omega) _
  | true =>
    cases q2 : hasB z1 page with
    | true =>
      have hvf := Lib.hid (show upB k1 p1 z1 page = false by unfold upB; rw [q2]; simp)
      have hno := Lib.hid (up_no hvf.out)
      go_enter Tryz.func26, Tryz.ntmps26
      go_wp2_with fail
      (with_reducible refine (kyHas_v k1 p1 z1 A1 c1 page _ hr2 (by omega) _ q).mono ?_)
      rintro e w1 ⟨rfl, hb1⟩
      have s1 : w.heap.size + 2 ≤ w1.heap.size := by have := hb1.size; simpa using this
      have hB1 := hB.trans (hb1.mono (by simp; omega))
      have bK1 := bK.st hb1
      have bZ1 := bZ.st hb1
      have y0 := bK1.cell 0
      have y1 := bK1.cell 1
      have y2 := bK1.cell 2
      have t0 := bZ1.cell 0
      have t1 := bZ1.cell 1
      have t2 := bZ1.cell 2
      have f0 := bZ1.frozen 0
      have f1 := bZ1.frozen 1
      have f2 := bZ1.frozen 2
      simp at y0 y1 y2 t0 t1 t2
      have hr3 := hr2.st hb1
      clear bK1 bZ1 bK bZ hB hr2
      go_wp2_with (go_at_call 96; (with_reducible refine (l1Has_v z1 A1 c1 page _ hr3 (by omega) _ q2).mono ?_); rintro e w' ⟨rfl, rfl⟩)
      refine bodyPost_ret (v := .tuple #[.agg #[.int .i64 0, .int .i64 0, .slice none 0 0], .bool false]) (by simp [results, Tryz.results26, go_sem, t0, t1, t2]) rfl ?_
      refine ⟨none, 0, by rw [hno.out.1, hno.out.2.1, hno.out.2.2, hvf.out]; rfl, by rw [hno.out.2.2]; exact Rd.nil, by rw [hno.out.2.2]; simp, ?_⟩
      exact ((hB1.setCell (by dsimp only; omega) _).setCell (by dsimp only; omega) _).setCell (by dsimp only; omega) _
    | false =>
      have hvt : upB k1 p1 z1 page = true := by unfold upB; rw [show (kbB k1 p1 z1 && inB page 0 (p1 - 1)) = true from q, q2]; rfl
      have hyes := Lib.hid (up_yes hvt)
      have hvtH := Lib.hid hvt
      have hkb : kbB k1 p1 z1 = true := by simp only [pgB, Bool.and_eq_true] at q; exact q.1
      have hl60 : z1.length ≤ 60 := by have := kb_len hkb; have := (kb_facts hkb).2.1; omega
      have hpl := putL_len z1 page
      clear hvt
      go_enter Tryz.func26, Tryz.ntmps26
      go_wp2_with fail
      (with_reducible refine (kyHas_v k1 p1 z1 A1 c1 page _ hr2 (by omega) _ q).mono ?_)
      rintro e w1 ⟨rfl, hb1⟩
      have s1 : w.heap.size + 2 ≤ w1.heap.size := by have := hb1.size; simpa using this
      have hB1 := hB.trans (hb1.mono (by simp; omega))
      have bK1 := bK.st hb1
      have bZ1 := bZ.st hb1
      have y0 := bK1.cell 0
      have y1 := bK1.cell 1
      have y2 := bK1.cell 2
      have t0 := bZ1.cell 0
      have t1 := bZ1.cell 1
      have t2 := bZ1.cell 2
      have f0 := bZ1.frozen 0
      have f1 := bZ1.frozen 1
      have f2 := bZ1.frozen 2
      simp at y0 y1 y2 t0 t1 t2
      have hr3 := hr2.st hb1
      clear bK bZ hB hr2
      go_wp2_with (go_at_call 96; (with_reducible refine (l1Has_v z1 A1 c1 page _ hr3 (by omega) _ q2).mono ?_); rintro e w' ⟨rfl, rfl⟩)
      (with_reducible refine (kyUse_any k1 p1 z1 A1 c1 page _ hr3 (by omega) hl hcap hcM hA).mono ?_)
      rintro e w2 ⟨A2, c2, l2, h2, rfl, q2r, hor2, lc2, mc2, hb2⟩
      have s2 := hb2.size
      have bZ2 := bZ1.st hb2
      have hB2 := Lib.hid (hB1.trans (hb2.mono (by omega)))
      have t0 := bZ2.cell 0
      have t1 := bZ2.cell 1
      have t2 := bZ2.cell 2
      have f0 := bZ2.frozen 0
      have f1 := bZ2.frozen 1
      have f2 := bZ2.frozen 2
      simp at t0 t1 t2
      have hx : h2 ≤ w.heap.size + 1 ∨ w.heap.size + 1 < l2 := by
        rcases hor2 with ⟨_, e⟩ | e <;> omega
      have hq := Lib.hid (((q2r.store (p := ⟨w.heap.size + 1, 0, none⟩) hx (.int .i64 k1)).store (p := ⟨w.heap.size + 1, 1, none⟩) hx (.int .i64 p1)).store (p := ⟨w.heap.size + 1, 2, none⟩) hx (.slice A2 (putL z1 page).length c2))
      clear bK1 bZ1 bZ2 hb2 q2r
      go_wp2_with fail
      refine bodyPost_ret (v := .tuple #[.agg #[.int .i64 k1, .int .i64 p1, .slice A2 (putL z1 page).length c2], .bool true]) (by simp [results, Tryz.results26, go_sem, t0, t1, t2]) rfl ?_
      refine ⟨A2, c2, by rw [hyes.out.1, hyes.out.2.1, hyes.out.2.2, hvtH.out], by rw [hyes.out.2.2]; exact hq.out.std, by rw [hyes.out.2.2]; omega, ?_⟩
      exact ((hB2.out.setCell (by dsimp only; omega) _).setCell (by dsimp only; omega) _).setCell (by dsimp only; omega) _

set_option maxHeartbeats 2000000 in
theorem iUsePage_any (k1 p1 : Int) (z1 : List Int) (A1 : Option Addr) (c1 : Nat) (page : Int) {l h : Nat} (w : World) (ho0 : Own w l h (.slice A1 z1.length c1) z1) (hl : z1.length ≤ 1048576) :
    Calls Tryz.prog 17 #[.agg #[.int .i64 k1, .int .i64 p1, .slice A1 z1.length c1], .int .i64 page] w fun e w' => ∃ A c, e = .returned (.tuple #[.agg #[.int .i64 (upK k1 p1 z1 page), .int .i64 (upP k1 p1 z1 page), .slice A (upL k1 p1 z1 page).length c], .bool (upB k1 p1 z1 page)]) ∧
      Own w' w.heap.size w'.heap.size (.slice A (upL k1 p1 z1 page).length c) (upL k1 p1 z1 page) ∧ (upL k1 p1 z1 page).length ≤ 1048576 ∧ Below w.heap.size w w' := by
  have hr := ho0.rd'.std
  have hcap := ho0.len.2
  have hcM := ho0.capM
  have hA := ho0.addr_
  have hr2 : Rd ((w.alloc (.cells #[.int .i64 k1, .int .i64 p1, .slice A1 z1.length c1] 26)).alloc (.cells #[.int .i64 0, .int .i64 0, .slice none 0 0] 26)) 0 w.heap.size A1 z1 := (hr.alloc _).alloc _
  have bK := (Bk.new w 26 #[.int .i64 k1, .int .i64 p1, .slice A1 z1.length c1]).alloc (.cells #[.int .i64 0, .int .i64 0, .slice none 0 0] 26)
  have bZ := Bk.new2 w (.cells #[.int .i64 k1, .int .i64 p1, .slice A1 z1.length c1] 26) 26 #[.int .i64 0, .int .i64 0, .slice none 0 0]
  have hB := ((Below.refl w.heap.size w).alloc (Nat.le_refl _) (.cells #[.int .i64 k1, .int .i64 p1, .slice A1 z1.length c1] 26)).alloc (by simp) (.cells #[.int .i64 0, .int .i64 0, .slice none 0 0] 26)
  clear ho0
  cases q : pgB k1 p1 z1 page with
  | false =>
    have hvf := Lib.hid (show upB k1 p1 z1 page = false by unfold upB; rw [show (kbB k1 p1 z1 && inB page 0 (p1 - 1)) = false from q]; rfl)
    have hno := Lib.hid (up_no hvf.out)
    go_enter Tryz.func17, Tryz.ntmps17
    go_wp2_with fail
    (with_reducible refine (isPage_v k1 p1 z1 A1 c1 page _ hr2 (by omega) _ q).mono ?_)
    rintro e w1 ⟨rfl, hb1⟩
    have s1 : w.heap.size + 2 ≤ w1.heap.size := by have := hb1.size; simpa using this
    have hB1 := hB.trans (hb1.mono (by simp; omega))
    have bK1 := bK.st hb1
    have bZ1 := bZ.st hb1
    have y0 := bK1.cell 0
    have y1 := bK1.cell 1
    have y2 := bK1.cell 2
    have t0 := bZ1.cell 0
    have t1 := bZ1.cell 1
    have t2 := bZ1.cell 2
    have f0 := bZ1.frozen 0
    have f1 := bZ1.frozen 1
    have f2 := bZ1.frozen 2
    simp at y0 y1 y2 t0 t1 t2
    have hr3 := hr2.st hb1
    clear bK1 bZ1 bK bZ hB hr3 hr2
    go_wp2_with fail
    refine bodyPost_ret (v := .tuple #[.agg #[.int .i64 0, .int .i64 0, .slice none 0 0], .bool false]) (by simp [results, Tryz.results17, go_sem, t0, t1, t2]) rfl ?_
    refine ⟨none, 0, by rw [hno.out.1, hno.out.2.1, hno.out.2.2, hvf.out]; rfl, by rw [hno.out.2.2]; exact Own.nil, by rw [hno.out.2.2]; simp, ?_⟩
    exact ((hB1.setCell (by dsimp only; omega) _).setCell (by dsimp only; omega) _).setCell (by dsimp only; omega) _
  | true =>
    cases q2 : hasB z1 page with
    | true =>
      have hvf := Lib.hid (show upB k1 p1 z1 page = false by unfold upB; rw [q2]; simp)
      have hno := Lib.hid (up_no hvf.out)
      go_enter Tryz.func17, Tryz.ntmps17
      go_wp2_with fail
      (with_reducible refine (isPage_v k1 p1 z1 A1 c1 page _ hr2 (by omega) _ q).mono ?_)
      rintro e w1 ⟨rfl, hb1⟩
      have s1 : w.heap.size + 2 ≤ w1.heap.size := by have := hb1.size; simpa using this
      have hB1 := hB.trans (hb1.mono (by simp; omega))
      have bK1 := bK.st hb1
      have bZ1 := bZ.st hb1
      have y0 := bK1.cell 0
      have y1 := bK1.cell 1
      have y2 := bK1.cell 2
      have t0 := bZ1.cell 0
      have t1 := bZ1.cell 1
      have t2 := bZ1.cell 2
      have f0 := bZ1.frozen 0
      have f1 := bZ1.frozen 1
      have f2 := bZ1.frozen 2
      simp at y0 y1 y2 t0 t1 t2
      have hr3 := hr2.st hb1
      clear bK1 bZ1 bK bZ hB hr2
      go_wp2_with (go_at_call 87; (with_reducible refine (Contains_v z1 A1 c1 page _ hr3 (by omega) _ q2).mono ?_); rintro e w' ⟨rfl, rfl⟩)
      refine bodyPost_ret (v := .tuple #[.agg #[.int .i64 0, .int .i64 0, .slice none 0 0], .bool false]) (by simp [results, Tryz.results17, go_sem, t0, t1, t2]) rfl ?_
      refine ⟨none, 0, by rw [hno.out.1, hno.out.2.1, hno.out.2.2, hvf.out]; rfl, by rw [hno.out.2.2]; exact Own.nil, by rw [hno.out.2.2]; simp, ?_⟩
      exact ((hB1.setCell (by dsimp only; omega) _).setCell (by dsimp only; omega) _).setCell (by dsimp only; omega) _
    | false =>
      have hvt : upB k1 p1 z1 page = true := by unfold upB; rw [show (kbB k1 p1 z1 && inB page 0 (p1 - 1)) = true from q, q2]; rfl
      have hyes := Lib.hid (up_yes hvt)
      have hvtH := Lib.hid hvt
      have hkb : kbB k1 p1 z1 = true := by simp only [pgB, Bool.and_eq_true] at q; exact q.1
      have hl60 : z1.length ≤ 60 := by have := kb_len hkb; have := (kb_facts hkb).2.1; omega
      have hpl := putL_len z1 page
      have hsort := Lib.hid (sort_put (kb_facts hkb).2.2.1 (n := page) (by simpa [hasB] using q2))
      clear hvt
      go_enter Tryz.func17, Tryz.ntmps17
      go_wp2_with fail
      (with_reducible refine (isPage_v k1 p1 z1 A1 c1 page _ hr2 (by omega) _ q).mono ?_)
      rintro e w1 ⟨rfl, hb1⟩
      have s1 : w.heap.size + 2 ≤ w1.heap.size := by have := hb1.size; simpa using this
      have hB1 := hB.trans (hb1.mono (by simp; omega))
      have bK1 := bK.st hb1
      have bZ1 := bZ.st hb1
      have y0 := bK1.cell 0
      have y1 := bK1.cell 1
      have y2 := bK1.cell 2
      have t0 := bZ1.cell 0
      have t1 := bZ1.cell 1
      have t2 := bZ1.cell 2
      have f0 := bZ1.frozen 0
      have f1 := bZ1.frozen 1
      have f2 := bZ1.frozen 2
      simp at y0 y1 y2 t0 t1 t2
      have hr3 := hr2.st hb1
      clear bK bZ hB hr2
      go_wp2_with (go_at_call 87; (with_reducible refine (Contains_v z1 A1 c1 page _ hr3 (by omega) _ q2).mono ?_); rintro e w' ⟨rfl, rfl⟩)
      (with_reducible refine (usePage_any k1 p1 z1 A1 c1 page _ hr3 (by omega)).mono ?_)
      rintro e w2 ⟨A2, c2, rfl, o2, hb2⟩
      have s2 := hb2.size
      have bZ2 := bZ1.st hb2
      have hB2 := Lib.hid (hB1.trans (hb2.mono (by omega)))
      have t0 := bZ2.cell 0
      have t1 := bZ2.cell 1
      have t2 := bZ2.cell 2
      have f0 := bZ2.frozen 0
      have f1 := bZ2.frozen 1
      have f2 := bZ2.frozen 2
      simp at t0 t1 t2
      rw [hsort.out] at o2
      have hln : Hid ((putL z1 page).length = z1.length + 1) := Lib.hid (by rw [← hsort.out, srt_len]; simp)
      have hq := Lib.hid (((o2.setCell (p := ⟨w.heap.size + 1, 0, none⟩) (.inl (by dsimp only; omega)) (.int .i64 k1)).setCell (p := ⟨w.heap.size + 1, 1, none⟩) (.inl (by dsimp only; omega)) (.int .i64 p1)).setCell (p := ⟨w.heap.size + 1, 2, none⟩) (.inl (by dsimp only; omega)) (.slice A2 (z1.length + 1) c2))
      clear bK1 bZ1 bZ2 hb2 o2
      go_wp2_with fail
      refine bodyPost_ret (v := .tuple #[.agg #[.int .i64 k1, .int .i64 p1, .slice A2 (z1.length + 1) c2], .bool true]) (by simp [results, Tryz.results17, go_sem, t0, t1, t2]) rfl ?_
      refine ⟨A2, c2, by rw [hyes.out.1, hyes.out.2.1, hyes.out.2.2, hvtH.out, hln.out], by rw [hyes.out.2.2, hln.out]; exact hq.out.mono (by omega) (by simp only [size_setCell]; exact Nat.le_refl _), by rw [hyes.out.2.2, hln.out]; omega, ?_⟩
      exact ((hB2.out.setCell (by dsimp only; omega) _).setCell (by dsimp only; omega) _).setCell (by dsimp only; omega) _
end Go.Proofs.YtjhbffndiaggmaaGreatDoor

/-
  Contracts of UseNextPage, in the reference and in the program. The conditions are bounds on lengths.
-/
namespace Go.Proofs.YtjhbffndiaggmaaGreatDoor
open Go.RowKit Go.ChangeShapes Go.WideShapes
set_option linter.unusedVariables false
set_option linter.unusedSimpArgs false

theorem pfxFrom_le (zs : List Int) (i : Nat) : pfxFrom zs i ≤ zs.length := by
  induction zs generalizing i with
  | nil => exact Nat.le_refl _
  | cons z zs ih =>
    unfold pfxFrom
    have := ih (i + 1)
    split <;> simp <;> omega
theorem pfx_le (zs : List Int) : pfx zs ≤ zs.length := pfxFrom_le zs 0
theorem hasB_mem_no {zs : List Int} {n : Int} (h : n ∉ zs) : hasB zs n = false := by simp [hasB, h]
theorem kyGood_v (k1 p1 : Int) (z1 : List Int) (A1 : Option Addr) (c1 : Nat) {l h : Nat} (w : World) (hr : Rd w l h A1 z1) (hl : z1.length ≤ 1048576) (v : Bool) (hv : kbB k1 p1 z1 = v) :
    Calls Tryz.prog 74 #[.agg #[.int .i64 k1, .int .i64 p1, .slice A1 z1.length c1]] w fun e w' => e = .returned (.bool v) ∧ Below w.heap.size w w' := by
  rw [← hv]; exact kyGood_any k1 p1 z1 A1 c1 w hr (by omega)
theorem iIsKeyBook_v (k1 p1 : Int) (z1 : List Int) (A1 : Option Addr) (c1 : Nat) {l h : Nat} (w : World) (hr : Rd w l h A1 z1) (hl : z1.length ≤ 1048576) (v : Bool) (hv : kbB k1 p1 z1 = v) :
    Calls Tryz.prog 15 #[.agg #[.int .i64 k1, .int .i64 p1, .slice A1 z1.length c1]] w fun e w' => e = .returned (.bool v) ∧ Below w.heap.size w w' := by
  rw [← hv]; exact iIsKeyBook_any k1 p1 z1 A1 c1 w hr (by omega)
set_option maxHeartbeats 2000000 in
theorem kyFree_v (k1 p1 : Int) (z1 : List Int) (A1 : Option Addr) (c1 : Nat) {l h : Nat} (w : World) (hr0 : Rd w l h A1 z1) (hl : z1.length ≤ 1048576) (hkb : kbB k1 p1 z1 = true) (v : Int) (hv : (pfx z1 : Int) = v) :
    Calls Tryz.prog 77 #[.agg #[.int .i64 k1, .int .i64 p1, .slice A1 z1.length c1]] w fun e w' => e = .returned (.int .i64 v) ∧ Below w.heap.size w w' := by
  subst hv
  have hr := hr0.std
  clear hr0
  obtain ⟨_, hp, hpw, hbd⟩ := kb_facts hkb
  have hln := kb_len hkb
  have hpwH := Lib.hid hpw
  have hbdH := Lib.hid hbd
  clear hpw hbd
  go_enter Tryz.func77, Tryz.ntmps77
  go_wp2
  go_loopw [3] (fun n wr => ∃ k : Nat, k ≤ z1.length ∧ n = .int .i64 k ∧ (∀ j (h : j < z1.length), j < k → z1[j] = (j : Int)) ∧ Bk wr w.heap.size 26 #[.int .i64 k1, .int .i64 p1, .slice A1 z1.length c1] ∧ Below w.heap.size w wr) (fun n _ => z1.length - (intOf n).toNat)
  case atStart => exact ⟨0, Nat.zero_le _, rfl, fun j _ h => absurd h (by omega), Bk.new w _ _, (Below.refl _ _).alloc (Nat.le_refl _) _⟩
  case round =>
    obtain ⟨k, hk, rfl, hall, hbk, hbr⟩ := hrel
    have hallH := Lib.hid hall
    clear hall
    have y1 := hbk.cell 1
    have y2 := hbk.cell 2
    simp at y1 y2
    have hr2 := hr.below hbr (Nat.le_refl _)
    by_cases he : ∃ h : k < z1.length, z1[k] = (k : Int)
    · obtain ⟨hlt, heq⟩ := he
      have hb := hbdH.out k hlt
      have hq := hasB_at hlt heq
      have heqH := Lib.hid heq
      clear heq
      rw [heqH.out] at hb
      go_wp2_with (go_at_call 96; (with_reducible refine (l1Has_v z1 A1 c1 (k : Int) _ hr2 (by omega) _ hq).mono ?_); rintro e w' ⟨rfl, rfl⟩)
      go_roundw
      case rel => exact ⟨k + 1, by omega, by go_num, fun j h hj => by
        by_cases e : j = k
        · subst e; exact heqH.out
        · exact hallH.out j h (by omega), hbk, hbr⟩
      case measure => simp [intOf]; omega
    · have hne : ∀ (h : k < z1.length), z1[k] ≠ (k : Int) := fun h e => he ⟨h, e⟩
      have hp0 := Lib.hid (pfx_at hk hallH.out hne)
      have hq := hasB_mem_no (pfx_free hpwH.out (fun j h => (hbdH.out j h).1) hk hallH.out hne)
      clear he hne
      by_cases hkp : (k : Int) < p1
      · go_wp2_with (go_at_call 96; (with_reducible refine (l1Has_v z1 A1 c1 (k : Int) _ hr2 (by omega) _ hq).mono ?_); rintro e w' ⟨rfl, rfl⟩)
        go_ret
        exact ⟨by rw [hp0.out]; rfl, hbr⟩
      · go_wp2
        go_ret
        exact ⟨by rw [hp0.out]; rfl, hbr⟩
set_option maxHeartbeats 2000000 in
theorem iUseNextPage_any (k1 p1 : Int) (z1 : List Int) (A1 : Option Addr) (c1 : Nat) {l h : Nat} (w : World) (ho0 : Own w l h (.slice A1 z1.length c1) z1) (hl : z1.length ≤ 1048576) :
    Calls Tryz.prog 12 #[.agg #[.int .i64 k1, .int .i64 p1, .slice A1 z1.length c1]] w fun e w' => ∃ A c, e = .returned (.tuple #[.agg #[.int .i64 (unK k1 p1 z1), .int .i64 (unP k1 p1 z1), .slice A (unL k1 p1 z1).length c], .int .i64 (unV k1 p1 z1), .bool (unB k1 p1 z1)]) ∧
      Own w' w.heap.size w'.heap.size (.slice A (unL k1 p1 z1).length c) (unL k1 p1 z1) ∧ (unL k1 p1 z1).length ≤ 1048576 ∧ Below w.heap.size w w' := by
  have hr := ho0.rd'.std
  have hr2 : Rd ((w.alloc (.cells #[.int .i64 k1, .int .i64 p1, .slice A1 z1.length c1] 26)).alloc (.cells #[.int .i64 0, .int .i64 0, .slice none 0 0] 26)) 0 w.heap.size A1 z1 := (hr.alloc _).alloc _
  have bK := (Bk.new w 26 #[.int .i64 k1, .int .i64 p1, .slice A1 z1.length c1]).alloc (.cells #[.int .i64 0, .int .i64 0, .slice none 0 0] 26)
  have bZ := Bk.new2 w (.cells #[.int .i64 k1, .int .i64 p1, .slice A1 z1.length c1] 26) 26 #[.int .i64 0, .int .i64 0, .slice none 0 0]
  have hB := ((Below.refl w.heap.size w).alloc (Nat.le_refl _) (.cells #[.int .i64 k1, .int .i64 p1, .slice A1 z1.length c1] 26)).alloc (by simp) (.cells #[.int .i64 0, .int .i64 0, .slice none 0 0] 26)
  clear ho0
  cases q : kbB k1 p1 z1 with
  | false =>
    have hvf := Lib.hid (show unB k1 p1 z1 = false by simp [unB, q])
    have hno := Lib.hid (un_no hvf.out)
    go_enter Tryz.func12, Tryz.ntmps12
    go_wp2_with fail
    (with_reducible refine (iIsKeyBook_v k1 p1 z1 A1 c1 _ hr2 (by omega) _ q).mono ?_)
    rintro e w1 ⟨rfl, hb1⟩
    have s1 : w.heap.size + 2 ≤ w1.heap.size := by have := hb1.size; simpa using this
    have hB1 := hB.trans (hb1.mono (by simp; omega))
    have bK1 := bK.st hb1
    have bZ1 := bZ.st hb1
    have y0 := bK1.cell 0
    have y1 := bK1.cell 1
    have y2 := bK1.cell 2
    have t0 := bZ1.cell 0
    have t1 := bZ1.cell 1
    have t2 := bZ1.cell 2
    have f0 := bZ1.frozen 0
    have f1 := bZ1.frozen 1
    have f2 := bZ1.frozen 2
    simp at y0 y1 y2 t0 t1 t2
    have hr3 := hr2.st hb1
    clear bK1 bZ1 bK bZ hB hr3 hr2
    go_wp2_with fail
    refine bodyPost_ret (v := .tuple #[.agg #[.int .i64 0, .int .i64 0, .slice none 0 0], .int .i64 0, .bool false]) (by simp [results, Tryz.results12, go_sem, t0, t1, t2]) rfl ?_
    refine ⟨none, 0, by rw [hno.out.1, hno.out.2.1, hno.out.2.2.1, hno.out.2.2.2, hvf.out]; rfl, by rw [hno.out.2.2.1]; exact Own.nil, by rw [hno.out.2.2.1]; simp, ?_⟩
    exact ((hB1.setCell (by dsimp only; omega) _).setCell (by dsimp only; omega) _).setCell (by dsimp only; omega) _
  | true =>
    have hln := kb_len q
    by_cases hf : (z1.length : Int) = p1
    · have hvf := Lib.hid (show unB k1 p1 z1 = false by simp [unB, hf])
      have hno := Lib.hid (un_no hvf.out)
      have tq : ((z1.length : Int) == p1) = true := by simp [hf]
      have hfH := Lib.hid hf
      clear hf
      go_enter Tryz.func12, Tryz.ntmps12
      go_wp2_with fail
      (with_reducible refine (iIsKeyBook_v k1 p1 z1 A1 c1 _ hr2 (by omega) _ q).mono ?_)
      rintro e w1 ⟨rfl, hb1⟩
      have s1 : w.heap.size + 2 ≤ w1.heap.size := by have := hb1.size; simpa using this
      have hB1 := hB.trans (hb1.mono (by simp; omega))
      have bK1 := bK.st hb1
      have bZ1 := bZ.st hb1
      have y0 := bK1.cell 0
      have y1 := bK1.cell 1
      have y2 := bK1.cell 2
      have t0 := bZ1.cell 0
      have t1 := bZ1.cell 1
      have t2 := bZ1.cell 2
      have f0 := bZ1.frozen 0
      have f1 := bZ1.frozen 1
      have f2 := bZ1.frozen 2
      simp at y0 y1 y2 t0 t1 t2
      have hr3 := hr2.st hb1
      clear bK1 bZ1 bK bZ hB hr3 hr2
      go_wp2_with fail
      refine bodyPost_ret (v := .tuple #[.agg #[.int .i64 0, .int .i64 0, .slice none 0 0], .int .i64 0, .bool false]) (by simp [results, Tryz.results12, go_sem, t0, t1, t2]) rfl ?_
      refine ⟨none, 0, by rw [hno.out.1, hno.out.2.1, hno.out.2.2.1, hno.out.2.2.2, hvf.out]; rfl, by rw [hno.out.2.2.1]; exact Own.nil, by rw [hno.out.2.2.1]; simp, ?_⟩
      exact ((hB1.setCell (by dsimp only; omega) _).setCell (by dsimp only; omega) _).setCell (by dsimp only; omega) _
    · have hvt : unB k1 p1 z1 = true := by simp [unB, q, hf]
      have hyes := Lib.hid (un_yes hvt)
      have hvtH := Lib.hid hvt
      have tq : ((z1.length : Int) == p1) = false := by simp [hf]
      obtain ⟨_, hp, hpw, hbd⟩ := kb_facts q
      have hpwH := Lib.hid hpw
      have hbdH := Lib.hid hbd
      have hlz : z1.length ≤ 60 := by omega
      clear hvt hpw hbd hf
      go_enter Tryz.func12, Tryz.ntmps12
      go_wp2_with fail
      (with_reducible refine (iIsKeyBook_v k1 p1 z1 A1 c1 _ hr2 (by omega) _ q).mono ?_)
      rintro e w1 ⟨rfl, hb1⟩
      have s1 : w.heap.size + 2 ≤ w1.heap.size := by have := hb1.size; simpa using this
      have hB1 := hB.trans (hb1.mono (by simp; omega))
      have bK1 := bK.st hb1
      have bZ1 := bZ.st hb1
      have y0 := bK1.cell 0
      have y1 := bK1.cell 1
      have y2 := bK1.cell 2
      have t0 := bZ1.cell 0
      have t1 := bZ1.cell 1
      have t2 := bZ1.cell 2
      have f0 := bZ1.frozen 0
      have f1 := bZ1.frozen 1
      have f2 := bZ1.frozen 2
      simp at y0 y1 y2 t0 t1 t2
      have hr3 := hr2.st hb1
      clear bK bZ hB hr2
      go_wp2
      go_loop [5] (fun n => ∃ k : Nat, k ≤ z1.length ∧ n = .int .i64 k ∧ (∀ j (h : j < z1.length), j < k → z1[j] = (j : Int))) (fun n => z1.length - (intOf n).toNat)
      case atStart => exact ⟨0, Nat.zero_le _, rfl, fun j _ h => absurd h (by omega)⟩
      case round =>
        obtain ⟨k, hk, rfl, hall⟩ := hrel
        have hallH := Lib.hid hall
        clear hall
        by_cases he : ∃ h : k < z1.length, z1[k] = (k : Int)
        · obtain ⟨hlt, heq⟩ := he
          obtain ⟨b, off, rfl, _, _, hc⟩ := hr3 (by omega)
          have x0 := hc k hlt
          rw [heq] at x0
          have heqH := Lib.hid heq
          have te : ((k : Int) == (k : Int)) = true := by simp
          clear heq hc
          go_wp2
          go_round
          case rel => exact ⟨k + 1, by omega, by go_num, fun j h hj => by
            by_cases e : j = k
            · subst e; exact heqH.out
            · exact hallH.out j h (by omega)⟩
          case measure => simp [intOf]; omega
        · have hne : ∀ (h : k < z1.length), z1[k] ≠ (k : Int) := fun h e => he ⟨h, e⟩
          have hp0 := Lib.hid (pfx_at hk hallH.out hne)
          have hfree := Lib.hid (pfx_free hpwH.out (fun j h => (hbdH.out j h).1) hk hallH.out hne)
          have hsort := Lib.hid (sort_put hpwH.out hfree.out)
          have hneH := Lib.hid hne
          have hrrH := Lib.hid hr3
          clear he hne
          by_cases hlt : k < z1.length
          · have hrr := hr3
            obtain ⟨b, off, rfl, _, _, hc⟩ := hr3 (by omega)
            have x0 := hc k hlt
            have te : (z1[k] == (k : Int)) = false := by have := hneH.out hlt; simp [this]
            clear hc
            go_wp2_with fail
            (with_reducible refine (usePage_any k1 p1 z1 _ c1 (k : Int) _ hrrH.out (by omega)).mono ?_)
            rintro e w2 ⟨A2, c2, rfl, o2, hb2⟩
            have s2 := hb2.size
            have bZ2 := bZ1.st hb2
            have hB2 := Lib.hid (hB1.trans (hb2.mono (by omega)))
            have t0 := bZ2.cell 0
            have t1 := bZ2.cell 1
            have t2 := bZ2.cell 2
            have f0 := bZ2.frozen 0
            have f1 := bZ2.frozen 1
            have f2 := bZ2.frozen 2
            simp at t0 t1 t2
            rw [hsort.out] at o2
            have hln : Hid ((putL z1 (k : Int)).length = z1.length + 1) := Lib.hid (by rw [← hsort.out, srt_len]; simp)
            have hq := Lib.hid (((o2.setCell (p := ⟨w.heap.size + 1, 0, none⟩) (.inl (by dsimp only; omega)) (.int .i64 k1)).setCell (p := ⟨w.heap.size + 1, 1, none⟩) (.inl (by dsimp only; omega)) (.int .i64 p1)).setCell (p := ⟨w.heap.size + 1, 2, none⟩) (.inl (by dsimp only; omega)) (.slice A2 (z1.length + 1) c2))
            clear bK1 bZ1 bZ2 hb2 o2
            go_wp2_with fail
            refine bodyPost_ret (v := .tuple #[.agg #[.int .i64 k1, .int .i64 p1, .slice A2 (z1.length + 1) c2], .int .i64 (k : Int), .bool true]) (by simp [results, Tryz.results12, go_sem, t0, t1, t2]) rfl ?_
            refine ⟨A2, c2, by rw [hyes.out.1, hyes.out.2.1, hyes.out.2.2.1, hyes.out.2.2.2, hvtH.out, hp0.out, hln.out], by rw [hyes.out.2.2.1, hp0.out, hln.out]; exact hq.out.mono (by omega) (by simp only [size_setCell]; exact Nat.le_refl _), by rw [hyes.out.2.2.1, hp0.out, hln.out]; omega, ?_⟩
            exact ((hB2.out.setCell (by dsimp only; omega) _).setCell (by dsimp only; omega) _).setCell (by dsimp only; omega) _
          · go_wp2_with fail
            (with_reducible refine (usePage_any k1 p1 z1 _ c1 (k : Int) _ hrrH.out (by omega)).mono ?_)
            rintro e w2 ⟨A2, c2, rfl, o2, hb2⟩
            have s2 := hb2.size
            have bZ2 := bZ1.st hb2
            have hB2 := Lib.hid (hB1.trans (hb2.mono (by omega)))
            have t0 := bZ2.cell 0
            have t1 := bZ2.cell 1
            have t2 := bZ2.cell 2
            have f0 := bZ2.frozen 0
            have f1 := bZ2.frozen 1
            have f2 := bZ2.frozen 2
            simp at t0 t1 t2
            rw [hsort.out] at o2
            have hln : Hid ((putL z1 (k : Int)).length = z1.length + 1) := Lib.hid (by rw [← hsort.out, srt_len]; simp)
            have hq := Lib.hid (((o2.setCell (p := ⟨w.heap.size + 1, 0, none⟩) (.inl (by dsimp only; omega)) (.int .i64 k1)).setCell (p := ⟨w.heap.size + 1, 1, none⟩) (.inl (by dsimp only; omega)) (.int .i64 p1)).setCell (p := ⟨w.heap.size + 1, 2, none⟩) (.inl (by dsimp only; omega)) (.slice A2 (z1.length + 1) c2))
            clear bK1 bZ1 bZ2 hb2 o2
            go_wp2_with fail
            refine bodyPost_ret (v := .tuple #[.agg #[.int .i64 k1, .int .i64 p1, .slice A2 (z1.length + 1) c2], .int .i64 (k : Int), .bool true]) (by simp [results, Tryz.results12, go_sem, t0, t1, t2]) rfl ?_
            refine ⟨A2, c2, by rw [hyes.out.1, hyes.out.2.1, hyes.out.2.2.1, hyes.out.2.2.2, hvtH.out, hp0.out, hln.out], by rw [hyes.out.2.2.1, hp0.out, hln.out]; exact hq.out.mono (by omega) (by simp only [size_setCell]; exact Nat.le_refl _), by rw [hyes.out.2.2.1, hp0.out, hln.out]; omega, ?_⟩
            exact ((hB2.out.setCell (by dsimp only; omega) _).setCell (by dsimp only; omega) _).setCell (by dsimp only; omega) _
set_option maxHeartbeats 4000000 in
theorem sUseNextPage_any (k1 p1 : Int) (z1 : List Int) (A1 : Option Addr) (c1 : Nat) {l h : Nat} (w : World) (ho0 : Own w l h (.slice A1 z1.length c1) z1) (hl : z1.length ≤ 1048576) :
    Calls Tryz.prog 13 #[.agg #[.int .i64 k1, .int .i64 p1, .slice A1 z1.length c1]] w fun e w' => ∃ A c, e = .returned (.tuple #[.agg #[.int .i64 (unK k1 p1 z1), .int .i64 (unP k1 p1 z1), .slice A (unL k1 p1 z1).length c], .int .i64 (unV k1 p1 z1), .bool (unB k1 p1 z1)]) ∧
      Rd w' 0 w'.heap.size A (unL k1 p1 z1) ∧ (unL k1 p1 z1).length ≤ 1048576 ∧ Below w.heap.size w w' := by
  have hr := ho0.rd'.std
  have hcap := ho0.len.2
  have hcM := ho0.capM
  have hA := ho0.addr_
  clear ho0
  obtain ⟨W, hW⟩ : ∃ W, W = (w.alloc (.cells #[.int .i64 k1, .int .i64 p1, .slice A1 z1.length c1] 26)).alloc (.cells #[.int .i64 0, .int .i64 0, .slice none 0 0] 26) := ⟨_, rfl⟩
  have hs2 : W.heap.size = w.heap.size + 2 := by rw [hW]; simp
  have hr2 : Rd W 0 w.heap.size A1 z1 := by rw [hW]; exact (hr.alloc _).alloc _
  have hB : Below w.heap.size w W := by rw [hW]; exact (((Below.refl _ _).alloc (Nat.le_refl _) _).alloc (by simp) _)
  have bK : Bk W w.heap.size 26 #[.int .i64 k1, .int .i64 p1, .slice A1 z1.length c1] := by rw [hW]; exact (Bk.new w _ _).alloc _
  have bZ : Bk W (w.heap.size + 1) 26 #[.int .i64 0, .int .i64 0, .slice none 0 0] := by rw [hW]; exact Bk.new2 w _ _ _
  have blt : w.heap.size < W.heap.size := by omega
  have y0 := bK.cell 0
  have y1 := bK.cell 1
  have y2 := bK.cell 2
  simp at y0 y1 y2
  have t0 := bZ.cell 0
  have t1 := bZ.cell 1
  have t2 := bZ.cell 2
  have f0 := bZ.frozen 0
  have f1 := bZ.frozen 1
  have f2 := bZ.frozen 2
  simp at t0 t1 t2
  have t0 := bZ.cell 0
  have t1 := bZ.cell 1
  have t2 := bZ.cell 2
  have f0 := bZ.frozen 0
  have f1 := bZ.frozen 1
  have f2 := bZ.frozen 2
  simp at t0 t1 t2
  have t0 := bZ.cell 0
  have t1 := bZ.cell 1
  have t2 := bZ.cell 2
  have f0 := bZ.frozen 0
  have f1 := bZ.frozen 1
  have f2 := bZ.frozen 2
  simp at t0 t1 t2
  cases q : kbB k1 p1 z1 with
  | false =>
    have hvf := Lib.hid (show unB k1 p1 z1 = false by simp [unB, q])
    have hno := Lib.hid (un_no hvf.out)
    go_enter Tryz.func13, Tryz.ntmps13
    go_wp2_with fail
    rw [← hW]
    clear hW
    refine wp_region_held_drew (S := (fun w' => w'.cell? ⟨w.heap.size, 0, none⟩ = some (.int .i64 k1) ∧ w'.cell? ⟨w.heap.size, 1, none⟩ = some (.int .i64 p1) ∧ w'.cell? ⟨w.heap.size, 2, none⟩ = some (.slice A1 z1.length c1))) (by kernel_rfl) ?_ (fun hHeld => ?_)
    · (try dsimp only); (first | (go_keep; done) | ((repeat' apply And.intro) <;> (first | (go_simp; done) | go_keep | assumption)))
    refine wpAnyH_take (i := 0) (oi := ⟨(some 5), _, _, _, _, _⟩) (v := ?_) rfl (by kernel_rfl) (by kernel_rfl) (by kernel_rfl) (fun _ _ _ h => h) (Or.inl ⟨by rfl, ?hv1⟩) (by assumption) ?hn1
    case hv1 => (intro w hSw; (try dsimp only at hSw); (first | (go_simp; done) | (go_simp; with_reducible rfl)))
    try simp only [Act.put, List.setIfInBounds_toArray, List.set_cons_zero, List.set_cons_succ]
    refine wpAnyH_ready (rs := [1]) (by kernel_rfl) (by simp) ?_
    refine AllReadyH.cons (o := ⟨(some 6), _, _, _, _, _⟩) rfl (fun K hK => ?_) AllReadyH.nil
    go_simp
    with_reducible refine (kyGood_v k1 p1 z1 A1 c1 _ hr2.drew hl _ q).mono ?_
    rintro e w3 ⟨rfl, hb3⟩
    have z3 : W.heap.size ≤ w3.heap.size := by have := hb3.size; simpa using this
    have hc3 := (bcell hb3).1
    have hf3 := (bcell hb3).2
    have hb3' := (hB.drew).trans (hb3.mono (by simp; omega))
    have hr3 := (hr2.drew).st hb3
    refine hK.out _ _ ?_ (fun hHeld1 => ?_)
    · (try dsimp only); (first | (go_keep; done) | ((try dsimp only at hHeld); (try go_split_ands); (repeat' apply And.intro) <;> (first | (go_keep; done) | ((refine (hc3 _ _ ?_).trans ?_) <;> first | assumption | omega | (simp <;> omega)))))
    clear hK K
    try simp only [Act.put, List.setIfInBounds_toArray, List.set_cons_zero, List.set_cons_succ]
    refine wpAnyH_take (i := 2) (oi := ⟨(some 7), _, _, _, _, _⟩) (v := ?_) rfl (by kernel_rfl) (by kernel_rfl) (by kernel_rfl) (fun _ _ _ h => h) (Or.inl ⟨by rfl, ?hv2⟩) (by assumption) ?hn2
    case hv2 => (intro w hSw; (try dsimp only at hSw); (first | (go_simp; done) | (go_simp; with_reducible rfl)))
    try simp only [Act.put, List.setIfInBounds_toArray, List.set_cons_zero, List.set_cons_succ]
    refine wpAnyH_take (i := 3) (oi := ⟨(some 8), _, _, _, _, _⟩) (v := ?_) rfl (by kernel_rfl) (by kernel_rfl) (by kernel_rfl) (fun _ _ _ h => h) (Or.inl ⟨by rfl, ?hv3⟩) (by assumption) ?hn3
    case hv3 => (intro w hSw; (try dsimp only at hSw); (first | (go_simp; done) | (go_simp; with_reducible rfl)))
    try simp only [Act.put, List.setIfInBounds_toArray, List.set_cons_zero, List.set_cons_succ]
    refine wpAnyH_take (i := 4) (oi := ⟨(some 9), _, _, _, _, _⟩) (v := undef) rfl (by kernel_rfl) (by kernel_rfl) (by kernel_rfl) (fun _ _ _ h => h) (Or.inr ⟨by rfl, rfl⟩) (by assumption) ?_
    simp only [Act.put, List.setIfInBounds_toArray, List.set_cons_zero, List.set_cons_succ]
    refine wpAnyH_take (i := 5) (oi := ⟨(some 10), _, _, _, _, _⟩) (v := undef) rfl (by kernel_rfl) (by kernel_rfl) (by kernel_rfl) (fun _ _ _ h => h) (Or.inr ⟨by rfl, rfl⟩) (by assumption) ?_
    simp only [Act.put, List.setIfInBounds_toArray, List.set_cons_zero, List.set_cons_succ]
    refine wpAnyH_take (i := 6) (oi := ⟨(some 11), _, _, _, _, _⟩) (v := undef) rfl (by kernel_rfl) (by kernel_rfl) (by kernel_rfl) (fun _ _ _ h => h) (Or.inr ⟨by rfl, rfl⟩) (by assumption) ?_
    simp only [Act.put, List.setIfInBounds_toArray, List.set_cons_zero, List.set_cons_succ]
    refine wpAnyH_take (i := 7) (oi := ⟨(some 12), _, _, _, _, _⟩) (v := undef) rfl (by kernel_rfl) (by kernel_rfl) (by kernel_rfl) (fun _ _ _ h => h) (Or.inr ⟨by rfl, rfl⟩) (by assumption) ?_
    simp only [Act.put, List.setIfInBounds_toArray, List.set_cons_zero, List.set_cons_succ]
    refine wpAnyH_take (i := 8) (oi := ⟨(some 13), _, _, _, _, _⟩) (v := undef) rfl (by kernel_rfl) (by kernel_rfl) (by kernel_rfl) (fun _ _ _ h => h) (Or.inr ⟨by rfl, rfl⟩) (by assumption) ?_
    simp only [Act.put, List.setIfInBounds_toArray, List.set_cons_zero, List.set_cons_succ]
    refine wpAnyH_take (i := 9) (oi := ⟨(some 14), _, _, _, _, _⟩) (v := ?_) rfl (by kernel_rfl) (by kernel_rfl) (by kernel_rfl) (fun _ _ _ h => h) (Or.inl ⟨by rfl, ?hv4⟩) (by assumption) ?hn4
    case hv4 => (intro w hSw; (try dsimp only at hSw); (first | (go_simp; done) | (go_simp; with_reducible rfl)))
    try simp only [Act.put, List.setIfInBounds_toArray, List.set_cons_zero, List.set_cons_succ]
    refine wpAnyH_done (by kernel_rfl) ?_ _
    have t0' := (hc3 _ _ (by first | omega | (simp <;> omega))).trans (t0)
    have f0' := (hf3 _ _ (by first | omega | (simp <;> omega))).trans (f0)
    have t1' := (hc3 _ _ (by first | omega | (simp <;> omega))).trans (t1)
    have f1' := (hf3 _ _ (by first | omega | (simp <;> omega))).trans (f1)
    have t2' := (hc3 _ _ (by first | omega | (simp <;> omega))).trans (t2)
    have f2' := (hf3 _ _ (by first | omega | (simp <;> omega))).trans (f2)
    go_wp2_with fail
    refine bodyPost_ret (v := .tuple #[.agg #[.int .i64 0, .int .i64 0, .slice none 0 0], .int .i64 0, .bool false]) (by simp [results, Tryz.results13, go_sem, t0', t1', t2']) rfl ?_
    refine ⟨none, 0, by rw [hno.out.1, hno.out.2.1, hno.out.2.2.1, hno.out.2.2.2, hvf.out]; rfl, by rw [hno.out.2.2.1]; exact Rd.nil, by rw [hno.out.2.2.1]; simp, ?_⟩
    exact ((hb3'.setCell (by dsimp only; omega) _).setCell (by dsimp only; omega) _).setCell (by dsimp only; omega) _
  | true =>
    have hln := kb_len q
    obtain ⟨_, hp, hpw, hbd⟩ := kb_facts q
    obtain ⟨v0, hpv⟩ : ∃ v : Int, (pfx z1 : Int) = v := ⟨_, rfl⟩
    have hpwH := Lib.hid hpw
    have hbdH := Lib.hid hbd
    clear hpw hbd
    by_cases hf : (z1.length : Int) = p1
    · have hvf := Lib.hid (show unB k1 p1 z1 = false by simp [unB, hf])
      have hno := Lib.hid (un_no hvf.out)
      have hv0 : v0 = p1 := by
        rw [← hpv, ← hf, pfx_at (Nat.le_refl _) (fun j h _ => kb_full q hf j h) (fun h => absurd h (by omega))]
      have tq : (v0 == p1) = true := by simp [hv0]
      have hfH := Lib.hid hf
      have hv0H := Lib.hid hv0
      clear hf hv0
      go_enter Tryz.func13, Tryz.ntmps13
      go_wp2_with fail
      rw [← hW]
      clear hW
      refine wp_region_held_drew (S := (fun w' => w'.cell? ⟨w.heap.size, 0, none⟩ = some (.int .i64 k1) ∧ w'.cell? ⟨w.heap.size, 1, none⟩ = some (.int .i64 p1) ∧ w'.cell? ⟨w.heap.size, 2, none⟩ = some (.slice A1 z1.length c1))) (by kernel_rfl) ?_ (fun hHeld => ?_)
      · (try dsimp only); (first | (go_keep; done) | ((repeat' apply And.intro) <;> (first | (go_simp; done) | go_keep | assumption)))
      refine wpAnyH_take (i := 0) (oi := ⟨(some 5), _, _, _, _, _⟩) (v := ?_) rfl (by kernel_rfl) (by kernel_rfl) (by kernel_rfl) (fun _ _ _ h => h) (Or.inl ⟨by rfl, ?hv5⟩) (by assumption) ?hn5
      case hv5 => (intro w hSw; (try dsimp only at hSw); (first | (go_simp; done) | (go_simp; with_reducible rfl)))
      try simp only [Act.put, List.setIfInBounds_toArray, List.set_cons_zero, List.set_cons_succ]
      refine wpAnyH_ready (rs := [1]) (by kernel_rfl) (by simp) ?_
      refine AllReadyH.cons (o := ⟨(some 6), _, _, _, _, _⟩) rfl (fun K hK => ?_) AllReadyH.nil
      go_simp
      with_reducible refine (kyGood_v k1 p1 z1 A1 c1 _ hr2.drew hl _ q).mono ?_
      rintro e w3 ⟨rfl, hb3⟩
      have z3 : W.heap.size ≤ w3.heap.size := by have := hb3.size; simpa using this
      have hc3 := (bcell hb3).1
      have hf3 := (bcell hb3).2
      have hb3' := (hB.drew).trans (hb3.mono (by simp; omega))
      have hr3 := (hr2.drew).st hb3
      refine hK.out _ _ ?_ (fun hHeld1 => ?_)
      · (try dsimp only); (first | (go_keep; done) | ((try dsimp only at hHeld); (try go_split_ands); (repeat' apply And.intro) <;> (first | (go_keep; done) | ((refine (hc3 _ _ ?_).trans ?_) <;> first | assumption | omega | (simp <;> omega)))))
      clear hK K
      try simp only [Act.put, List.setIfInBounds_toArray, List.set_cons_zero, List.set_cons_succ]
      refine wpAnyH_take (i := 2) (oi := ⟨(some 7), _, _, _, _, _⟩) (v := ?_) rfl (by kernel_rfl) (by kernel_rfl) (by kernel_rfl) (fun _ _ _ h => h) (Or.inl ⟨by rfl, ?hv6⟩) (by assumption) ?hn6
      case hv6 => (intro w hSw; (try dsimp only at hSw); (first | (go_simp; done) | (go_simp; with_reducible rfl)))
      try simp only [Act.put, List.setIfInBounds_toArray, List.set_cons_zero, List.set_cons_succ]
      refine wpAnyH_take (i := 3) (oi := ⟨(some 8), _, _, _, _, _⟩) (v := ?_) rfl (by kernel_rfl) (by kernel_rfl) (by kernel_rfl) (fun _ _ _ h => h) (Or.inl ⟨by rfl, ?hv7⟩) (by assumption) ?hn7
      case hv7 => (intro w hSw; (try dsimp only at hSw); (first | (go_simp; done) | (go_simp; with_reducible rfl)))
      try simp only [Act.put, List.setIfInBounds_toArray, List.set_cons_zero, List.set_cons_succ]
      refine wpAnyH_take (i := 4) (oi := ⟨(some 9), _, _, _, _, _⟩) (v := ?_) rfl (by kernel_rfl) (by kernel_rfl) (by kernel_rfl) (fun _ _ _ h => h) (Or.inl ⟨by rfl, ?hv8⟩) (by assumption) ?hn8
      case hv8 => (intro w hSw; (try dsimp only at hSw); (first | (go_simp; done) | (go_simp; with_reducible rfl)))
      try simp only [Act.put, List.setIfInBounds_toArray, List.set_cons_zero, List.set_cons_succ]
      refine wpAnyH_take (i := 6) (oi := ⟨(some 11), _, _, _, _, _⟩) (v := ?_) rfl (by kernel_rfl) (by kernel_rfl) (by kernel_rfl) (fun _ _ _ h => h) (Or.inl ⟨by rfl, ?hv9⟩) (by assumption) ?hn9
      case hv9 => (intro w hSw; (try dsimp only at hSw); (first | (go_simp; done) | (go_simp; with_reducible rfl)))
      try simp only [Act.put, List.setIfInBounds_toArray, List.set_cons_zero, List.set_cons_succ]
      refine wpAnyH_take (i := 7) (oi := ⟨(some 12), _, _, _, _, _⟩) (v := ?_) rfl (by kernel_rfl) (by kernel_rfl) (by kernel_rfl) (fun _ _ _ h => h) (Or.inl ⟨by rfl, ?hv10⟩) (by assumption) ?hn10
      case hv10 => (intro w hSw; (try dsimp only at hSw); (first | (go_simp; done) | (go_simp; with_reducible rfl)))
      try simp only [Act.put, List.setIfInBounds_toArray, List.set_cons_zero, List.set_cons_succ]
      refine wpAnyH_ready (rs := [5]) (by kernel_rfl) (by simp) ?_
      refine AllReadyH.cons (o := ⟨(some 10), _, _, _, _, _⟩) rfl (fun K hK => ?_) AllReadyH.nil
      go_simp
      with_reducible refine (kyFree_v k1 p1 z1 A1 c1 _ hr3 hl q _ hpv).mono ?_
      rintro e w4 ⟨rfl, hb4⟩
      have z4 : w3.heap.size ≤ w4.heap.size := hb4.size
      have hc4 := (bcell hb4).1
      have hf4 := (bcell hb4).2
      have hb4' := hb3'.trans (hb4.mono (by omega))
      have hr4 := hr3.st hb4
      refine hK.out _ _ ?_ (fun hHeld5 => ?_)
      · (try dsimp only); (first | (go_keep; done) | ((try dsimp only at hHeld1); (try go_split_ands); (repeat' apply And.intro) <;> (first | (go_keep; done) | ((refine (hc4 _ _ ?_).trans ?_) <;> first | assumption | omega | (simp <;> omega)))))
      clear hK K
      try simp only [Act.put, List.setIfInBounds_toArray, List.set_cons_zero, List.set_cons_succ]
      refine wpAnyH_take (i := 8) (oi := ⟨(some 13), _, _, _, _, _⟩) (v := ?_) rfl (by kernel_rfl) (by kernel_rfl) (by kernel_rfl) (fun _ _ _ h => h) (Or.inl ⟨by rfl, ?hv11⟩) (by assumption) ?hn11
      case hv11 => (intro w hSw; (try dsimp only at hSw); (first | (go_simp; done) | (go_simp; with_reducible rfl)))
      try simp only [Act.put, List.setIfInBounds_toArray, List.set_cons_zero, List.set_cons_succ]
      refine wpAnyH_take (i := 9) (oi := ⟨(some 14), _, _, _, _, _⟩) (v := ?_) rfl (by kernel_rfl) (by kernel_rfl) (by kernel_rfl) (fun _ _ _ h => h) (Or.inl ⟨by rfl, ?hv12⟩) (by assumption) ?hn12
      case hv12 => (intro w hSw; (try dsimp only at hSw); (first | (go_simp; done) | (go_simp; with_reducible rfl)))
      try simp only [Act.put, List.setIfInBounds_toArray, List.set_cons_zero, List.set_cons_succ]
      refine wpAnyH_done (by kernel_rfl) ?_ _
      have t0' := (hc4 _ _ (by first | omega | (simp <;> omega))).trans ((hc3 _ _ (by first | omega | (simp <;> omega))).trans (t0))
      have f0' := (hf4 _ _ (by first | omega | (simp <;> omega))).trans ((hf3 _ _ (by first | omega | (simp <;> omega))).trans (f0))
      have t1' := (hc4 _ _ (by first | omega | (simp <;> omega))).trans ((hc3 _ _ (by first | omega | (simp <;> omega))).trans (t1))
      have f1' := (hf4 _ _ (by first | omega | (simp <;> omega))).trans ((hf3 _ _ (by first | omega | (simp <;> omega))).trans (f1))
      have t2' := (hc4 _ _ (by first | omega | (simp <;> omega))).trans ((hc3 _ _ (by first | omega | (simp <;> omega))).trans (t2))
      have f2' := (hf4 _ _ (by first | omega | (simp <;> omega))).trans ((hf3 _ _ (by first | omega | (simp <;> omega))).trans (f2))
      go_wp2_with fail
      refine bodyPost_ret (v := .tuple #[.agg #[.int .i64 0, .int .i64 0, .slice none 0 0], .int .i64 0, .bool false]) (by simp [results, Tryz.results13, go_sem, t0', t1', t2']) rfl ?_
      refine ⟨none, 0, by rw [hno.out.1, hno.out.2.1, hno.out.2.2.1, hno.out.2.2.2, hvf.out]; rfl, by rw [hno.out.2.2.1]; exact Rd.nil, by rw [hno.out.2.2.1]; simp, ?_⟩
      exact ((hb4'.setCell (by dsimp only; omega) _).setCell (by dsimp only; omega) _).setCell (by dsimp only; omega) _
    · have hvt : unB k1 p1 z1 = true := by simp [unB, q, hf]
      have hyes := Lib.hid (un_yes hvt)
      have hvtH := Lib.hid hvt
      have hvne : v0 ≠ p1 := by
        intro e
        have hlt : z1.length < p1.toNat := by omega
        have hp1 := pfx_le z1
        omega
      have tq : (v0 == p1) = false := by simp [hvne]
      have hpl := putL_len z1 v0
      have hlz : z1.length ≤ 60 := by omega
      clear hvt hf hvne
      go_enter Tryz.func13, Tryz.ntmps13
      go_wp2_with fail
      rw [← hW]
      clear hW
      refine wp_region_held_drew (S := (fun w' => w'.cell? ⟨w.heap.size, 0, none⟩ = some (.int .i64 k1) ∧ w'.cell? ⟨w.heap.size, 1, none⟩ = some (.int .i64 p1) ∧ w'.cell? ⟨w.heap.size, 2, none⟩ = some (.slice A1 z1.length c1))) (by kernel_rfl) ?_ (fun hHeld => ?_)
      · (try dsimp only); (first | (go_keep; done) | ((repeat' apply And.intro) <;> (first | (go_simp; done) | go_keep | assumption)))
      refine wpAnyH_take (i := 0) (oi := ⟨(some 5), _, _, _, _, _⟩) (v := ?_) rfl (by kernel_rfl) (by kernel_rfl) (by kernel_rfl) (fun _ _ _ h => h) (Or.inl ⟨by rfl, ?hv13⟩) (by assumption) ?hn13
      case hv13 => (intro w hSw; (try dsimp only at hSw); (first | (go_simp; done) | (go_simp; with_reducible rfl)))
      try simp only [Act.put, List.setIfInBounds_toArray, List.set_cons_zero, List.set_cons_succ]
      refine wpAnyH_ready (rs := [1]) (by kernel_rfl) (by simp) ?_
      refine AllReadyH.cons (o := ⟨(some 6), _, _, _, _, _⟩) rfl (fun K hK => ?_) AllReadyH.nil
      go_simp
      with_reducible refine (kyGood_v k1 p1 z1 A1 c1 _ hr2.drew hl _ q).mono ?_
      rintro e w3 ⟨rfl, hb3⟩
      have z3 : W.heap.size ≤ w3.heap.size := by have := hb3.size; simpa using this
      have hc3 := (bcell hb3).1
      have hf3 := (bcell hb3).2
      have hb3' := (hB.drew).trans (hb3.mono (by simp; omega))
      have hr3 := (hr2.drew).st hb3
      refine hK.out _ _ ?_ (fun hHeld1 => ?_)
      · (try dsimp only); (first | (go_keep; done) | ((try dsimp only at hHeld); (try go_split_ands); (repeat' apply And.intro) <;> (first | (go_keep; done) | ((refine (hc3 _ _ ?_).trans ?_) <;> first | assumption | omega | (simp <;> omega)))))
      clear hK K
      try simp only [Act.put, List.setIfInBounds_toArray, List.set_cons_zero, List.set_cons_succ]
      refine wpAnyH_take (i := 2) (oi := ⟨(some 7), _, _, _, _, _⟩) (v := ?_) rfl (by kernel_rfl) (by kernel_rfl) (by kernel_rfl) (fun _ _ _ h => h) (Or.inl ⟨by rfl, ?hv14⟩) (by assumption) ?hn14
      case hv14 => (intro w hSw; (try dsimp only at hSw); (first | (go_simp; done) | (go_simp; with_reducible rfl)))
      try simp only [Act.put, List.setIfInBounds_toArray, List.set_cons_zero, List.set_cons_succ]
      refine wpAnyH_take (i := 3) (oi := ⟨(some 8), _, _, _, _, _⟩) (v := ?_) rfl (by kernel_rfl) (by kernel_rfl) (by kernel_rfl) (fun _ _ _ h => h) (Or.inl ⟨by rfl, ?hv15⟩) (by assumption) ?hn15
      case hv15 => (intro w hSw; (try dsimp only at hSw); (first | (go_simp; done) | (go_simp; with_reducible rfl)))
      try simp only [Act.put, List.setIfInBounds_toArray, List.set_cons_zero, List.set_cons_succ]
      refine wpAnyH_take (i := 4) (oi := ⟨(some 9), _, _, _, _, _⟩) (v := ?_) rfl (by kernel_rfl) (by kernel_rfl) (by kernel_rfl) (fun _ _ _ h => h) (Or.inl ⟨by rfl, ?hv16⟩) (by assumption) ?hn16
      case hv16 => (intro w hSw; (try dsimp only at hSw); (first | (go_simp; done) | (go_simp; with_reducible rfl)))
      try simp only [Act.put, List.setIfInBounds_toArray, List.set_cons_zero, List.set_cons_succ]
      refine wpAnyH_take (i := 6) (oi := ⟨(some 11), _, _, _, _, _⟩) (v := ?_) rfl (by kernel_rfl) (by kernel_rfl) (by kernel_rfl) (fun _ _ _ h => h) (Or.inl ⟨by rfl, ?hv17⟩) (by assumption) ?hn17
      case hv17 => (intro w hSw; (try dsimp only at hSw); (first | (go_simp; done) | (go_simp; with_reducible rfl)))
      try simp only [Act.put, List.setIfInBounds_toArray, List.set_cons_zero, List.set_cons_succ]
      refine wpAnyH_take (i := 7) (oi := ⟨(some 12), _, _, _, _, _⟩) (v := ?_) rfl (by kernel_rfl) (by kernel_rfl) (by kernel_rfl) (fun _ _ _ h => h) (Or.inl ⟨by rfl, ?hv18⟩) (by assumption) ?hn18
      case hv18 => (intro w hSw; (try dsimp only at hSw); (first | (go_simp; done) | (go_simp; with_reducible rfl)))
      try simp only [Act.put, List.setIfInBounds_toArray, List.set_cons_zero, List.set_cons_succ]
      refine wpAnyH_ready (rs := [5]) (by kernel_rfl) (by simp) ?_
      refine AllReadyH.cons (o := ⟨(some 10), _, _, _, _, _⟩) rfl (fun K hK => ?_) AllReadyH.nil
      go_simp
      with_reducible refine (kyFree_v k1 p1 z1 A1 c1 _ hr3 hl q _ hpv).mono ?_
      rintro e w4 ⟨rfl, hb4⟩
      have z4 : w3.heap.size ≤ w4.heap.size := hb4.size
      have hc4 := (bcell hb4).1
      have hf4 := (bcell hb4).2
      have hb4' := hb3'.trans (hb4.mono (by omega))
      have hr4 := hr3.st hb4
      refine hK.out _ _ ?_ (fun hHeld5 => ?_)
      · (try dsimp only); (first | (go_keep; done) | ((try dsimp only at hHeld1); (try go_split_ands); (repeat' apply And.intro) <;> (first | (go_keep; done) | ((refine (hc4 _ _ ?_).trans ?_) <;> first | assumption | omega | (simp <;> omega)))))
      clear hK K
      try simp only [Act.put, List.setIfInBounds_toArray, List.set_cons_zero, List.set_cons_succ]
      refine wpAnyH_take (i := 8) (oi := ⟨(some 13), _, _, _, _, _⟩) (v := ?_) rfl (by kernel_rfl) (by kernel_rfl) (by kernel_rfl) (fun _ _ _ h => h) (Or.inl ⟨by rfl, ?hv19⟩) (by assumption) ?hn19
      case hv19 => (intro w hSw; (try dsimp only at hSw); (first | (go_simp; done) | (go_simp; with_reducible rfl)))
      try simp only [Act.put, List.setIfInBounds_toArray, List.set_cons_zero, List.set_cons_succ]
      refine wpAnyH_take (i := 9) (oi := ⟨(some 14), _, _, _, _, _⟩) (v := ?_) rfl (by kernel_rfl) (by kernel_rfl) (by kernel_rfl) (fun _ _ _ h => h) (Or.inl ⟨by rfl, ?hv20⟩) (by assumption) ?hn20
      case hv20 => (intro w hSw; (try dsimp only at hSw); (first | (go_simp; done) | (go_simp; with_reducible rfl)))
      try simp only [Act.put, List.setIfInBounds_toArray, List.set_cons_zero, List.set_cons_succ]
      refine wpAnyH_done (by kernel_rfl) ?_ _
      have t0' := (hc4 _ _ (by first | omega | (simp <;> omega))).trans ((hc3 _ _ (by first | omega | (simp <;> omega))).trans (t0))
      have f0' := (hf4 _ _ (by first | omega | (simp <;> omega))).trans ((hf3 _ _ (by first | omega | (simp <;> omega))).trans (f0))
      have t1' := (hc4 _ _ (by first | omega | (simp <;> omega))).trans ((hc3 _ _ (by first | omega | (simp <;> omega))).trans (t1))
      have f1' := (hf4 _ _ (by first | omega | (simp <;> omega))).trans ((hf3 _ _ (by first | omega | (simp <;> omega))).trans (f1))
      have t2' := (hc4 _ _ (by first | omega | (simp <;> omega))).trans ((hc3 _ _ (by first | omega | (simp <;> omega))).trans (t2))
      have f2' := (hf4 _ _ (by first | omega | (simp <;> omega))).trans ((hf3 _ _ (by first | omega | (simp <;> omega))).trans (f2))
      have y0' := (hc4 _ _ (by first | omega | (simp <;> omega))).trans ((hc3 _ _ (by first | omega | (simp <;> omega))).trans y0)
      have y1' := (hc4 _ _ (by first | omega | (simp <;> omega))).trans ((hc3 _ _ (by first | omega | (simp <;> omega))).trans y1)
      have y2' := (hc4 _ _ (by first | omega | (simp <;> omega))).trans ((hc3 _ _ (by first | omega | (simp <;> omega))).trans y2)
      have bl4 : w.heap.size < w4.heap.size := by omega
      have hh4 : w.heap.size ≤ w4.heap.size := by omega
      have hb4H := Lib.hid hb4'
      clear hc3 hf3 hc4 hf4 hb3 hb4 hb3' hb4' hr3 hr2 hB bK bZ y0 y1 y2 t0 t1 t2 f0 f1 f2
      go_wp2_with fail
      go_region_held3 (fun w' => w'.cell? ⟨w.heap.size, 0, none⟩ = some (.int .i64 k1) ∧ w'.cell? ⟨w.heap.size, 1, none⟩ = some (.int .i64 p1) ∧ w'.cell? ⟨w.heap.size, 2, none⟩ = some (.slice A1 z1.length c1))
        (first | go_keep | ((try go_split_ands); (try dsimp only); (repeat' apply And.intro) <;> (first | go_keep | ((refine (hc9 _ _ ?_).trans ?_) <;> first | assumption | omega | (simp <;> omega)) | ((refine (hc8 _ _ ?_).trans ?_) <;> first | assumption | omega | (simp <;> omega)) | ((refine (hc7 _ _ ?_).trans ?_) <;> first | assumption | omega | (simp <;> omega)))))
        (first
          | (go_at_call 78; ((with_reducible refine (kyUse_any k1 p1 z1 A1 c1 v0 _ (hr4.drew.st hb7) (by omega) hl hcap hcM hA).mono ?_); rintro e w8 ⟨A8, c8, l8, h8, rfl, q8, hor8, lc8, mc8, hb8⟩; (have hc8 := (bcell hb8).1); (have hf8 := (bcell hb8).2); (have z8 : w7.heap.size ≤ w8.heap.size := hb8.size)))
          | (go_at_call 77; ((with_reducible refine (kyFree_v k1 p1 z1 A1 c1 _ hr4.drew hl q _ hpv).mono ?_); rintro e w7 ⟨rfl, hb7⟩; (have hc7 := (bcell hb7).1); (have hf7 := (bcell hb7).2); (have z7 : w4.heap.size ≤ w7.heap.size := by have := hb7.size; simpa using this)))
          | (go_at_call 77; ((with_reducible refine (kyFree_v k1 p1 z1 A1 c1 _ ((hr4.drew.st hb7).st hb8) hl q _ hpv).mono ?_); rintro e w9 ⟨rfl, hb9⟩; (have hc9 := (bcell hb9).1); (have hf9 := (bcell hb9).2); (have z9 : w8.heap.size ≤ w9.heap.size := hb9.size); (have t09 := (hc9 _ _ (by omega)).trans ((hc8 _ _ (by omega)).trans ((hc7 _ _ (by first | omega | (simp <;> omega))).trans t0'))); (have f09 := (hf9 _ _ (by omega)).trans ((hf8 _ _ (by omega)).trans ((hf7 _ _ (by first | omega | (simp <;> omega))).trans f0'))); (have t19 := (hc9 _ _ (by omega)).trans ((hc8 _ _ (by omega)).trans ((hc7 _ _ (by first | omega | (simp <;> omega))).trans t1'))); (have f19 := (hf9 _ _ (by omega)).trans ((hf8 _ _ (by omega)).trans ((hf7 _ _ (by first | omega | (simp <;> omega))).trans f1'))); (have t29 := (hc9 _ _ (by omega)).trans ((hc8 _ _ (by omega)).trans ((hc7 _ _ (by first | omega | (simp <;> omega))).trans t2'))); (have f29 := (hf9 _ _ (by omega)).trans ((hf8 _ _ (by omega)).trans ((hf7 _ _ (by first | omega | (simp <;> omega))).trans f2'))))))
      have hx : h8 ≤ w.heap.size + 1 ∨ w.heap.size + 1 < l8 := by
        rcases hor8 with ⟨_, e⟩ | e <;> omega
      have hq := Lib.hid ((((q8.st hb9).store (p := ⟨w.heap.size + 1, 0, none⟩) hx (.int .i64 k1)).store (p := ⟨w.heap.size + 1, 1, none⟩) hx (.int .i64 p1)).store (p := ⟨w.heap.size + 1, 2, none⟩) hx (.slice A8 (putL z1 v0).length c8))
      have hB9 := Lib.hid ((((hb4H.out.drew).trans (hb7.mono (by first | omega | (simp <;> omega)))).trans (hb8.mono (by omega))).trans (hb9.mono (by omega)))
      clear hb7 hc7 hf7 hb8 hc8 hf8 hb9 hc9 hf9 q8 hHeld1 hHeld5 t0' f0' t1' f1' t2' f2' y0' y1' y2'
      go_wp2_with fail
      refine bodyPost_ret (v := .tuple #[.agg #[.int .i64 k1, .int .i64 p1, .slice A8 (putL z1 v0).length c8], .int .i64 v0, .bool true]) (by simp [results, Tryz.results13, go_sem, t09, t19, t29]) rfl ?_
      refine ⟨A8, c8, by rw [hyes.out.1, hyes.out.2.1, hyes.out.2.2.1, hyes.out.2.2.2, hvtH.out, hpv], by rw [hyes.out.2.2.1, hpv]; exact hq.out.std, by rw [hyes.out.2.2.1, hpv]; omega, ?_⟩
      exact ((hB9.out.setCell (by dsimp only; omega) _).setCell (by dsimp only; omega) _).setCell (by dsimp only; omega) _
end Go.Proofs.YtjhbffndiaggmaaGreatDoor
