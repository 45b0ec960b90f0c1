/-
  Contracts on key books: the statements' helpers (size, copy, equality, marks), and validity in the program and the reference. The conditions are bounds on a slice's length.
-/
import Derived.Test.YtaoobcjannbnjaaDoorIntLow
import Derived.Test.YtaoobcjannbnjaaDoorInts
namespace Go.Proofs.YtaoobcjannbnjaaDoor
open Go.RowKit Go.ChangeShapes Go.WideShapes
set_option linter.unusedVariables false

/-- a key book's value: key, pages, and the slice of used ones -/
def kbv (key pages : Int) (A : Option Addr) (n c : Nat) : Value := .agg #[.int .i64 key, .int .i64 pages, .slice A n c]

set_option maxHeartbeats 400000 in
theorem szKeyBook_any (key pages : Int) (zs : List Int) (A : Option Addr) (c : Nat) (left : Int) (w : World) (hl : zs.length ≤ 9223372036854775807) (h0 : 0 ≤ left) (h1 : left ≤ 1048576) :
    Calls Tryd.prog 14 #[.agg #[.int .i64 key, .int .i64 pages, .slice A zs.length c], .int .i64 left] w fun e w' => e = .returned (.int .i64 (szL zs.length left)) ∧ Below w.heap.size w w' := by
  by_cases h : left - (zs.length : Int) < 0
  · have hs := Lib.hid (show szL zs.length left = -1 by simp [szL, h])
    have hlt : szL zs.length left < 0 := by rw [hs.out]; omega
    go_enter Tryd.func14, Tryd.ntmps14
    go_wp2_with (go_at_call 45; refine (szIntS_any zs _ _ _ _ hl h0 h1).mono ?_; rintro e w' ⟨rfl, rfl⟩)
    go_ret
    exact ⟨by rw [hs.out]; rfl, (Below.refl _ _).alloc (Nat.le_refl _) _⟩
  · have hlt : ¬ szL zs.length left < 0 := by simp [szL]; omega
    go_enter Tryd.func14, Tryd.ntmps14
    go_wp2_with (go_at_call 45; refine (szIntS_any zs _ _ _ _ hl h0 h1).mono ?_; rintro e w' ⟨rfl, rfl⟩)
    go_ret
    exact ⟨rfl, (Below.refl _ _).alloc (Nat.le_refl _) _⟩

set_option maxHeartbeats 1000000 in
theorem toKeyBook_any (key pages : Int) (zs : List Int) (A : Option Addr) (c : Nat) {l h : Nat} (w : World) (hr0 : Rd w l h A zs) (hl : zs.length ≤ 1099511627776) :
    Calls Tryd.prog 16 #[.agg #[.int .i64 key, .int .i64 pages, .slice A zs.length c]] w fun e w' => ∃ A' c', e = .returned (.agg #[.int .i64 key, .int .i64 pages, .slice A' zs.length c']) ∧
      Own w' w.heap.size w'.heap.size (.slice A' zs.length c') zs ∧ Below w.heap.size w w' := by
  have hr := hr0.std
  clear hr0
  go_enter Tryd.func16, Tryd.ntmps16
  go_wp2_with fail
  obtain ⟨W3, hW3⟩ : ∃ W3, W3 = ((w.alloc (.cells #[Value.int IntKind.i64 key, Value.int IntKind.i64 pages, Value.slice A zs.length c] 29)).alloc (.cells #[Value.int IntKind.i64 0, Value.int IntKind.i64 0, Value.slice none 0 0] 32)).alloc
      (.cells #[Value.int IntKind.i64 key, Value.int IntKind.i64 pages, Value.slice none 0 0] 32) := ⟨_, rfl⟩
  have hs3 : W3.heap.size = w.heap.size + 3 := by rw [hW3]; simp
  have hr3 : Rd W3 0 W3.heap.size A zs := by rw [hs3, hW3]; exact (((hr.alloc _).alloc _).alloc _).mono (Nat.le_refl _) (by omega)
  have hB3 : Below w.heap.size w W3 := by rw [hW3]; exact (((Below.refl _ _).alloc (Nat.le_refl _) _).alloc (by simp) _).alloc (by simp; omega) _
  have k1 : Bk W3 (w.heap.size + 1) 32 #[Value.int IntKind.i64 0, Value.int IntKind.i64 0, Value.slice none 0 0] := by
    have h := (Bk.new (w.alloc (.cells #[Value.int IntKind.i64 key, Value.int IntKind.i64 pages, Value.slice A zs.length c] 29)) 32 #[Value.int IntKind.i64 0, Value.int IntKind.i64 0, Value.slice none 0 0]).alloc (.cells #[Value.int IntKind.i64 key, Value.int IntKind.i64 pages, Value.slice none 0 0] 32)
    rw [hW3]; simpa using h
  have k2 : Bk W3 (w.heap.size + 1 + 1) 32 #[Value.int IntKind.i64 key, Value.int IntKind.i64 pages, Value.slice none 0 0] := by
    have h := Bk.new ((w.alloc (.cells #[Value.int IntKind.i64 key, Value.int IntKind.i64 pages, Value.slice A zs.length c] 29)).alloc (.cells #[Value.int IntKind.i64 0, Value.int IntKind.i64 0, Value.slice none 0 0] 32)) 32 #[Value.int IntKind.i64 key, Value.int IntKind.i64 pages, Value.slice none 0 0]
    rw [hW3]; simpa using h
  rw [← hW3]
  clear hW3
  refine (toIntS_any zs A c W3 hr3 hl).mono ?_
  rintro e w1 ⟨v1, rfl, hown1, hb1⟩
  obtain ⟨A1, c1, rfl, -, -⟩ := hown1.rd
  have k1' := k1.below hb1 (by omega)
  have k2' := k2.below hb1 (by omega)
  have a0 := k1'.cell 0
  have a1 := k1'.cell 1
  have a2 := k1'.cell 2
  have f0 := k1'.frozen 0
  have f1 := k1'.frozen 1
  have f2 := k1'.frozen 2
  have b0 := k2'.cell 0
  have b1 := k2'.cell 1
  have b2 := k2'.cell 2
  have g2 := k2'.frozen 2
  simp at a0 a1 a2 b0 b1 b2
  have hs1 := hb1.size
  have hB1 := Lib.hid (hB3.trans (hb1.mono (by omega)))
  have hown := Lib.hid hown1
  clear k1 k2 k1' k2' hr3 hr hB3 hown1 hb1
  go_wp2_with fail
  refine bodyPost_ret (v := .agg #[.int .i64 key, .int .i64 pages, .slice A1 zs.length c1]) (by simp [results, Tryd.results16, go_sem, a0, a1, a2]) rfl ⟨A1, c1, rfl, ?_, ?_⟩
  · simp only [size_setCell]
    exact ((((hown.out.setCell (.inl (by dsimp only; omega)) _).setCell (.inl (by dsimp only; omega)) _).setCell (.inl (by dsimp only; omega)) _).setCell (.inl (by dsimp only; omega)) _).mono (by omega) (Nat.le_refl _)
  · exact (((hB1.out.setCell (by dsimp only; omega) _).setCell (by dsimp only; omega) _).setCell (by dsimp only; omega) _).setCell (by dsimp only; omega) _

def eqKb (k1 p1 : Int) (z1 : List Int) (k2 p2 : Int) (z2 : List Int) : Bool := decide (k1 = k2) && (decide (p1 = p2) && eqL z1 z2)
theorem eqKb_self (k p : Int) (z : List Int) : eqKb k p z k p z = true := by simp [eqKb, eqL]

set_option maxHeartbeats 1000000 in
theorem eqKeyBook_any (k1 p1 : Int) (z1 : List Int) (A1 : Option Addr) (c1 : Nat) {l1 h1 : Nat} (k2 p2 : Int) (z2 : List Int) (A2 : Option Addr) (c2 : Nat) {l2 h2 : Nat} (w : World) (hr1 : Rd w l1 h1 A1 z1) (hr2 : Rd w l2 h2 A2 z2)
    (hl1 : z1.length ≤ 9223372036854775807) (hl2 : z2.length ≤ 9223372036854775807) :
    Calls Tryd.prog 18 #[.agg #[.int .i64 k1, .int .i64 p1, .slice A1 z1.length c1], .agg #[.int .i64 k2, .int .i64 p2, .slice A2 z2.length c2]] w fun e w' => e = .returned (.bool (eqKb k1 p1 z1 k2 p2 z2)) ∧ Below w.heap.size w w' := by
  have hb : ∀ o1 o2 : Obj, Below w.heap.size w ((w.alloc o1).alloc o2) := fun o1 o2 => ((Below.refl _ _).alloc (Nat.le_refl _) _).alloc (by simp) _
  by_cases e1 : k1 = k2
  · have t1 : (k1 != k2) = false := by simp [e1]
    by_cases e2 : p1 = p2
    · have t2 : (p1 != p2) = false := by simp [e2]
      have hq := Lib.hid (show eqKb k1 p1 z1 k2 p2 z2 = eqL z1 z2 by simp [eqKb, e1, e2])
      clear e1 e2
      cases e3 : eqL z1 z2 with
      | true =>
        have e3' := Lib.hid e3
        go_enter Tryd.func18, Tryd.ntmps18
        go_wp2_with (go_at_call 13; refine (eqIntS_any z1 z2 A1 A2 c1 c2 _ ((hr1.alloc _).alloc _) ((hr2.alloc _).alloc _) hl1 hl2).mono ?_; rintro e w' ⟨rfl, n, rfl⟩)
        go_ret
        exact ⟨by rw [hq.out, e3'.out]; rfl, below_drewN (hb _ _) n⟩
      | false =>
        have e3' := Lib.hid e3
        go_enter Tryd.func18, Tryd.ntmps18
        go_wp2_with (go_at_call 13; refine (eqIntS_any z1 z2 A1 A2 c1 c2 _ ((hr1.alloc _).alloc _) ((hr2.alloc _).alloc _) hl1 hl2).mono ?_; rintro e w' ⟨rfl, n, rfl⟩)
        go_ret
        exact ⟨by rw [hq.out, e3'.out]; rfl, below_drewN (hb _ _) n⟩
    · have t2 : (p1 != p2) = true := by simp [e2]
      have hq := Lib.hid (show eqKb k1 p1 z1 k2 p2 z2 = false by simp [eqKb, e2])
      clear e1 e2
      go_enter Tryd.func18, Tryd.ntmps18
      go_wp2
      go_ret
      exact ⟨by rw [hq.out]; rfl, hb _ _⟩
  · have t1 : (k1 != k2) = true := by simp [e1]
    have hq := Lib.hid (show eqKb k1 p1 z1 k2 p2 z2 = false by simp [eqKb, e1])
    clear e1
    go_enter Tryd.func18, Tryd.ntmps18
    go_wp2
    go_ret
    exact ⟨by rw [hq.out]; rfl, hb _ _⟩

set_option maxHeartbeats 1000000 in
theorem kyGood_any (key pages : Int) (zs : List Int) (A : Option Addr) (c : Nat) {l h : Nat} (w : World) (hr : Rd w l h A zs) (hl : zs.length ≤ 9223372036854775806) :
    Calls Tryd.prog 46 #[.agg #[.int .i64 key, .int .i64 pages, .slice A zs.length c]] w fun e w' => e = .returned (.bool (kbB key pages zs)) ∧ Below w.heap.size w w' := by
  have hbel : ∀ o : Obj, Below w.heap.size w (w.alloc o) := fun o => (Below.refl _ _).alloc (Nat.le_refl _) _
  cases h1 : inB key 0 1000000000 with
  | true =>
    have q1 := Lib.hid h1
    cases h2 : inB pages 1 60 with
    | true =>
      have q2 := Lib.hid h2
      have hp := inB_iff.1 h2
      go_enter Tryd.func46, Tryd.ntmps46
      go_wp2_with (first
        | (go_at_call 41; refine (l1In_any _ _ _ _).mono ?_; rintro e w' ⟨rfl, rfl⟩)
        | (go_at_call 75; refine (l1Rising_any zs A c _ _ _ (hr.alloc _) hl).mono ?_; rintro e w' ⟨rfl, rfl⟩))
      go_ret
      exact ⟨by simp [kbB, q1.out, q2.out], hbel _⟩
    | false =>
      have q2 := Lib.hid h2
      go_enter Tryd.func46, Tryd.ntmps46
      go_wp2_with (first
        | (go_at_call 41; refine (l1In_any _ _ _ _).mono ?_; rintro e w' ⟨rfl, rfl⟩))
      go_ret
      exact ⟨by simp [kbB, q1.out, q2.out], hbel _⟩
  | false =>
    have q1 := Lib.hid h1
    go_enter Tryd.func46, Tryd.ntmps46
    go_wp2_with (first
      | (go_at_call 41; refine (l1In_any _ _ _ _).mono ?_; rintro e w' ⟨rfl, rfl⟩))
    go_ret
    exact ⟨by simp [kbB, q1.out], hbel _⟩
set_option maxHeartbeats 1000000 in
theorem iIsKeyBook_any (key pages : Int) (zs : List Int) (A : Option Addr) (c : Nat) {l h : Nat} (w : World) (hr : Rd w l h A zs) (hl : zs.length ≤ 9223372036854775806) :
    Calls Tryd.prog 48 #[.agg #[.int .i64 key, .int .i64 pages, .slice A zs.length c]] w fun e w' => e = .returned (.bool (kbB key pages zs)) ∧ Below w.heap.size w w' := by
  have hbel : ∀ o : Obj, Below w.heap.size w (w.alloc o) := fun o => (Below.refl _ _).alloc (Nat.le_refl _) _
  cases h1 : inB key 0 1000000000 with
  | true =>
    have q1 := Lib.hid h1
    cases h2 : inB pages 1 60 with
    | true =>
      have q2 := Lib.hid h2
      have hp := inB_iff.1 h2
      cases h3 : allB zs 0 (pages - 1) with
      | true =>
        have q3 := Lib.hid h3
        go_enter Tryd.func48, Tryd.ntmps48
        go_wp2_with (first
          | (go_at_call 43; refine (within_any _ _ _ _).mono ?_; rintro e w' ⟨rfl, rfl⟩)
          | (go_at_call 77; refine (allWithin_any zs A c _ _ _ (hr.alloc _) (by omega)).mono ?_; rintro e w' ⟨rfl, rfl⟩)
          | (go_at_call 78; refine (increasing_any zs A c _ (hr.alloc _) hl).mono ?_; rintro e w' ⟨rfl, n, rfl⟩))
        go_ret
        exact ⟨by simp [kbB, risinB, q1.out, q2.out, q3.out], below_drewN (hbel _) _⟩
      | false =>
        have q3 := Lib.hid h3
        go_enter Tryd.func48, Tryd.ntmps48
        go_wp2_with (first
          | (go_at_call 43; refine (within_any _ _ _ _).mono ?_; rintro e w' ⟨rfl, rfl⟩)
          | (go_at_call 77; refine (allWithin_any zs A c _ _ _ (hr.alloc _) (by omega)).mono ?_; rintro e w' ⟨rfl, rfl⟩))
        go_ret
        exact ⟨by simp [kbB, risinB, q1.out, q2.out, q3.out], hbel _⟩
    | false =>
      have q2 := Lib.hid h2
      go_enter Tryd.func48, Tryd.ntmps48
      go_wp2_with (first
        | (go_at_call 43; refine (within_any _ _ _ _).mono ?_; rintro e w' ⟨rfl, rfl⟩))
      go_ret
      exact ⟨by simp [kbB, q1.out, q2.out], hbel _⟩
  | false =>
    have q1 := Lib.hid h1
    go_enter Tryd.func48, Tryd.ntmps48
    go_wp2_with (first
      | (go_at_call 43; refine (within_any _ _ _ _).mono ?_; rintro e w' ⟨rfl, rfl⟩))
    go_ret
    exact ⟨by simp [kbB, q1.out], hbel _⟩

end Go.Proofs.YtaoobcjannbnjaaDoor
