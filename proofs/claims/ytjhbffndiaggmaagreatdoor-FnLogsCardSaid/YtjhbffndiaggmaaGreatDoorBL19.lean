/-
  Contracts and plain laws that the walk uses, several texts in one. The conditions are named ahead of each.
-/
import Derived.Test.YtjhbffndiaggmaaGreatDoorBL18
import Derived.Deep.RegionHeld3
import Derived.Test.YtjhbffndiaggmaaGreatDoorBL3

/-
  Contracts on slices of log entries: the statements' helpers (size, copy, equality) and the search for an entry. The conditions are bounds on lengths.
-/
namespace Go.Proofs.YtjhbffndiaggmaaGreatDoor
open Go.RowKit Go.ChangeShapes Go.WideShapes
set_option linter.unusedVariables false

theorem OwnE.at_ {w : World} {lo hi g n c k : Nat} {es : List Ent} (h : OwnE w lo hi (.slice (some ⟨g, 0, none⟩) n c) es) (hk : k < es.length) : lo ≤ g ∧ g < hi ∧ g < w.heap.size ∧
    (∃ x0, w.cell? ⟨g, k * 5, none⟩ = some x0) ∧ (∃ x1, w.cell? ⟨g, k * 5 + 1, none⟩ = some x1) ∧ (∃ x2, w.cell? ⟨g, k * 5 + 2, none⟩ = some x2) ∧ (∃ x3, w.cell? ⟨g, k * 5 + 3, none⟩ = some x3) ∧ (∃ x4, w.cell? ⟨g, k * 5 + 4, none⟩ = some x4) ∧ ∀ j, w.frozen? ⟨g, j, none⟩ = false := by
  rcases h with ⟨h, _⟩ | ⟨g', cap, cur, U, V, e0, a1, a2, hg, c1, c2, c3, hj, hdj⟩
  · cases h
  · injection e0 with e1 e2 e3
    injection e1 with e1
    injection e1 with e1
    subst e1
    obtain ⟨⟨x0, x1, x2, x3, x4⟩, _⟩ := hj k hk
    have hc : ∀ i, w.cell? ⟨g, i, none⟩ = cur[i]? := fun i => cell_of_row w g i cur _ _ hg
    exact ⟨a1, a2, (Array.getElem?_eq_some_iff.1 hg).1, ⟨_, (hc _).trans x0⟩, ⟨_, (hc _).trans x1⟩, ⟨_, (hc _).trans x2⟩, ⟨_, (hc _).trans x3⟩, ⟨_, (hc _).trans x4⟩, fun j => by simp [World.frozen?, hg]⟩

/-- the first entry of a part -/
def findI (es : List Ent) (m p : Int) : Int := match es.findIdx? (fun e => e.msg == m && e.part == p) with | some k => (k : Int) | none => -1
def isE (e : Ent) (m p : Int) : Bool := e.msg == m && e.part == p
theorem findI_at {es : List Ent} {m p : Int} {k : Nat} (h : k < es.length) (h1 : isE es[k] m p = true) (h2 : ∀ j (h3 : j < es.length), j < k → isE es[j] m p = false) : findI es m p = (k : Int) := by
  have : es.findIdx? (fun e => e.msg == m && e.part == p) = some k := by
    rw [List.findIdx?_eq_some_iff_getElem]
    exact ⟨h, h1, fun j hj => by have := h2 j (by omega) hj; unfold isE at this; rw [this]; simp⟩
  simp [findI, this]
theorem findI_no {es : List Ent} {m p : Int} (h : ∀ k (_ : k < es.length), isE es[k] m p = false) : findI es m p = -1 := by
  have : es.findIdx? (fun e => e.msg == m && e.part == p) = none := by
    rw [List.findIdx?_eq_none_iff]
    intro x hx
    obtain ⟨k, hk, e⟩ := List.getElem_of_mem hx
    have := h k hk
    unfold isE at this
    rw [← e]; exact this
  simp [findI, this]
theorem findI_cases (es : List Ent) (m p : Int) : (∃ k, ∃ h : k < es.length, findI es m p = (k : Int) ∧ isE es[k] m p = true ∧ ∀ j (h3 : j < es.length), j < k → isE es[j] m p = false) ∨ (findI es m p = -1 ∧ ∀ k (_ : k < es.length), isE es[k] m p = false) := by
  cases hf : es.findIdx? (fun e => e.msg == m && e.part == p) with
  | some k =>
    left
    have hf2 := hf
    rw [List.findIdx?_eq_some_iff_getElem] at hf
    obtain ⟨h, h1, h2⟩ := hf
    exact ⟨k, h, by simp [findI, hf2], h1, fun j hj hjk => by have := h2 j hjk; unfold isE; simpa using this⟩
  | none =>
    right
    refine ⟨by simp [findI, hf], fun k hk => ?_⟩
    rw [List.findIdx?_eq_none_iff] at hf
    exact hf _ (List.getElem_mem hk)
theorem findI_range (es : List Ent) (m p : Int) : -1 ≤ findI es m p ∧ findI es m p < es.length + 1 := by
  rcases findI_cases es m p with ⟨k, h, e, _⟩ | ⟨e, _⟩ <;> rw [e] <;> omega
set_option maxHeartbeats 1000000 in
theorem lgFind_any (es : List Ent) (A : Option Addr) (c : Nat) (m p : Int) {l h : Nat} (w : World) (hr0 : RdE w l h A es) (hl : es.length ≤ 1048576) :
    Calls Tryz.prog 142 #[.slice A es.length c, .int .i64 m, .int .i64 p] w fun e w' => e = .returned (.int .i64 (findI es m p)) ∧ Below w.heap.size w w' := by
  have hr := hr0.std
  clear hr0
  go_enter Tryz.func142, Tryz.ntmps142
  go_wp2
  go_loopw [7, 8, 11] (fun _ _ i wr => ∃ k : Nat, k ≤ es.length ∧ i = .int .i64 k ∧ (∀ j (h : j < es.length), j < k → isE es[j] m p = false) ∧ Below w.heap.size w wr) (fun _ _ i _ => es.length - (intOf i).toNat)
  case atStart => exact ⟨0, Nat.zero_le _, rfl, fun j _ h => absurd h (by omega), Below.refl _ _⟩
  case round =>
    obtain ⟨k, hk, rfl, hall, hbr⟩ := hrel
    have hallH := Lib.hid hall
    clear hall
    by_cases hlt : k < es.length
    · obtain ⟨b, off, rfl, _, _, hc⟩ := (hr.below hbr (Nat.le_refl _)) (by omega)
      obtain ⟨A1, c1, A2, c2, x0, x1, x2, x3, x4, r1, r2⟩ := hc k hlt
      have hb2 : ∀ o : Obj, Below w.heap.size w (wr.alloc o) := fun o => hbr.alloc hbr.size o
      clear hc
      have hdef : Hid (isE es[k] m p = (es[k].msg == m && es[k].part == p)) := Lib.hid rfl
      cases e1 : (es[k].msg == m) with
      | false =>
        have hq := Lib.hid (show isE es[k] m p = false by rw [hdef.out, e1]; rfl)
        go_wp2
        go_roundw
        case rel => exact ⟨k + 1, by omega, by go_num, fun j h1 h2 => by
          by_cases hj : j = k
          · subst hj; exact hq.out
          · exact hallH.out j h1 (by omega), hb2 _⟩
        case measure => simp [intOf]; omega
      | true =>
        cases e2 : (es[k].part == p) with
        | false =>
          have hq := Lib.hid (show isE es[k] m p = false by rw [hdef.out, e1, e2]; rfl)
          go_wp2
          go_roundw
          case rel => exact ⟨k + 1, by omega, by go_num, fun j h1 h2 => by
            by_cases hj : j = k
            · subst hj; exact hq.out
            · exact hallH.out j h1 (by omega), hb2 _⟩
          case measure => simp [intOf]; omega
        | true =>
          have hq := Lib.hid (findI_at hlt (show isE es[k] m p = true by rw [hdef.out, e1, e2]; rfl) hallH.out)
          go_wp2
          go_ret
          exact ⟨by rw [hq.out]; rfl, hb2 _⟩
    · have hq := Lib.hid (findI_no (es := es) (m := m) (p := p) fun j h1 => hallH.out j h1 (by omega))
      go_wp2
      go_ret
      exact ⟨by rw [hq.out]; rfl, hbr⟩
end Go.Proofs.YtjhbffndiaggmaaGreatDoor

/-
  Contracts on key books: pairs of them, the pages left, the pages used twice, the numbers of a page. The conditions are bounds on lengths.
-/
namespace Go.Proofs.YtjhbffndiaggmaaGreatDoor
open Go.RowKit Go.ChangeShapes Go.WideShapes
set_option linter.unusedVariables false

def plV (key pages : Int) (zs : List Int) : Int := if kbB key pages zs then pages - (zs.length : Int) else 0
def kpB (k1 p1 : Int) (z1 : List Int) (k2 p2 : Int) (z2 : List Int) : Bool := kbB k1 p1 z1 && (kbB k2 p2 z2 && (decide (k1 = k2) && decide (p1 = p2)))
theorem ret_zb {A : Option Addr} {n m c : Nat} {p q : Bool} (h : n = m) (h' : p = q) : Ending.returned (.tuple #[.slice A n c, .bool p]) = .returned (.tuple #[.slice A m c, .bool q]) := by rw [h, h']

set_option maxHeartbeats 400000 in
theorem sPagesLeft_any (key pages : Int) (zs : List Int) (A : Option Addr) (c : Nat) {l h : Nat} (w : World) (hr : Rd w l h A zs) (hl : zs.length ≤ 1048576) :
    Calls Tryz.prog 11 #[.agg #[.int .i64 key, .int .i64 pages, .slice A zs.length c]] w fun e w' => e = .returned (.tuple #[.int .i64 (plV key pages zs), .bool (kbB key pages zs)]) ∧ Below w.heap.size w w' := by
  cases hk : kbB key pages zs with
  | true =>
    have hp : 1 ≤ pages ∧ pages ≤ 60 := by
      simp only [kbB, Bool.and_eq_true] at hk
      exact inB_iff.1 hk.2.1
    have hv := Lib.hid (show plV key pages zs = pages - (zs.length : Int) by simp [plV, hk])
    go_enter Tryz.func11, Tryz.ntmps11
    go_wp2_with fail
    refine (kyGood_any key pages zs A c _ (hr.alloc _) (by omega)).mono ?_
    rintro e w1 ⟨rfl, hb1⟩
    have k1 := (Bk.new w _ _).st hb1
    have a1 := k1.cell 1
    have a2 := k1.cell 2
    simp at a1 a2
    have hb := ((Below.refl _ _).alloc (Nat.le_refl _) _).trans (hb1.mono (by simp))
    clear hb1 k1
    go_wp2
    go_ret2
    exact ⟨ret_ib hv.out.symm rfl, hb⟩
  | false =>
    have hv := Lib.hid (show plV key pages zs = 0 by simp [plV, hk])
    go_enter Tryz.func11, Tryz.ntmps11
    go_wp2_with (go_at_call 74; refine (kyGood_any key pages zs A c _ (hr.alloc _) (by omega)).mono ?_; rintro e w1 ⟨rfl, hb1⟩)
    go_ret2
    exact ⟨ret_ib hv.out.symm rfl, ((Below.refl _ _).alloc (Nat.le_refl _) _).trans (hb1.mono (by simp))⟩

set_option maxHeartbeats 400000 in
theorem iPagesLeft_any (key pages : Int) (zs : List Int) (A : Option Addr) (c : Nat) {l h : Nat} (w : World) (hr : Rd w l h A zs) (hl : zs.length ≤ 1048576) :
    Calls Tryz.prog 10 #[.agg #[.int .i64 key, .int .i64 pages, .slice A zs.length c]] w fun e w' => e = .returned (.tuple #[.int .i64 (plV key pages zs), .bool (kbB key pages zs)]) ∧ Below w.heap.size w w' := by
  cases hk : kbB key pages zs with
  | true =>
    have hp : 1 ≤ pages ∧ pages ≤ 60 := by
      simp only [kbB, Bool.and_eq_true] at hk
      exact inB_iff.1 hk.2.1
    have hv := Lib.hid (show plV key pages zs = pages - (zs.length : Int) by simp [plV, hk])
    go_enter Tryz.func10, Tryz.ntmps10
    go_wp2_with fail
    refine (iIsKeyBook_any key pages zs A c _ (hr.alloc _) (by omega)).mono ?_
    rintro e w1 ⟨rfl, hb1⟩
    have k1 := (Bk.new w _ _).st hb1
    have a1 := k1.cell 1
    have a2 := k1.cell 2
    simp at a1 a2
    have hb := ((Below.refl _ _).alloc (Nat.le_refl _) _).trans (hb1.mono (by simp))
    clear hb1 k1
    go_wp2
    go_ret2
    exact ⟨ret_ib hv.out.symm rfl, hb⟩
  | false =>
    have hv := Lib.hid (show plV key pages zs = 0 by simp [plV, hk])
    go_enter Tryz.func10, Tryz.ntmps10
    go_wp2_with (go_at_call 15; refine (iIsKeyBook_any key pages zs A c _ (hr.alloc _) (by omega)).mono ?_; rintro e w1 ⟨rfl, hb1⟩)
    go_ret2
    exact ⟨ret_ib hv.out.symm rfl, ((Below.refl _ _).alloc (Nat.le_refl _) _).trans (hb1.mono (by simp))⟩

set_option maxHeartbeats 1000000 in
theorem kyPair_any (k1 p1 : Int) (z1 : List Int) (A1 : Option Addr) (c1 : Nat) (k2 p2 : Int) (z2 : List Int) (A2 : Option Addr) (c2 : Nat) {l1 h1 l2 h2 : Nat} (w : World) (hr1 : Rd w l1 h1 A1 z1) (hr2 : Rd w l2 h2 A2 z2) (hl1 : z1.length ≤ 1048576) (hl2 : z2.length ≤ 1048576) :
    Calls Tryz.prog 93 #[.agg #[.int .i64 k1, .int .i64 p1, .slice A1 z1.length c1], .agg #[.int .i64 k2, .int .i64 p2, .slice A2 z2.length c2]] w fun e w' => e = .returned (.bool (kpB k1 p1 z1 k2 p2 z2)) ∧ Below w.heap.size w w' := by
  cases q1 : kbB k1 p1 z1 with
  | false =>
    have hv := Lib.hid (show kpB k1 p1 z1 k2 p2 z2 = false by simp [kpB, q1])
    go_enter Tryz.func93, Tryz.ntmps93
    go_wp2_with fail
    refine (kyGood_any k1 p1 z1 A1 c1 _ ((hr1.alloc _).alloc _) (by omega)).mono ?_
    rintro e w1 ⟨rfl, hb1⟩
    have hb := (((Below.refl w.heap.size w).alloc (Nat.le_refl _) _).alloc (by simp) _).trans (hb1.mono (by simp; omega))
    clear hb1
    go_wp2
    go_ret
    exact ⟨by rw [hv.out]; rfl, hb⟩
  | true =>
    have hq1 := Lib.hid q1
    cases q2 : kbB k2 p2 z2 with
    | false =>
      have hv := Lib.hid (show kpB k1 p1 z1 k2 p2 z2 = false by simp [kpB, q1, q2])
      go_enter Tryz.func93, Tryz.ntmps93
      go_wp2_with fail
      refine (kyGood_any k1 p1 z1 A1 c1 _ ((hr1.alloc _).alloc _) (by omega)).mono ?_
      rintro e w1 ⟨rfl, hb1⟩
      have hb := (((Below.refl w.heap.size w).alloc (Nat.le_refl _) _).alloc (by simp) _).trans (hb1.mono (by simp; omega))
      have s1 : w.heap.size + 2 ≤ w1.heap.size := by have := hb1.size; simp at this; omega
      have b2 := (Bk.new2 w _ _ _).st hb1
      have r2 := ((hr2.alloc _).alloc _).st hb1
      have d0 := b2.cell 0
      have d1 := b2.cell 1
      have d2 := b2.cell 2
      simp at d0 d1 d2
      clear hb1 b2
      go_wp2_with fail
      refine (kyGood_any k2 p2 z2 A2 c2 _ r2 (by omega)).mono ?_
      rintro e w2 ⟨rfl, hb2⟩
      have hb' := hb.trans (hb2.mono (by omega))
      clear hb hb2 d0 d1 d2
      go_wp2
      go_ret
      exact ⟨by rw [hv.out]; rfl, hb'⟩
    | true =>
      have hq2 := Lib.hid q2
      have key : ∀ (e1 : Bool) (e2 : Bool), (k1 == k2) = e1 → (p1 == p2) = e2 → Hid (kpB k1 p1 z1 k2 p2 z2 = (e1 && e2)) := by
        intro e1 e2 h1 h2
        show _ = _
        rw [← h1, ← h2]
        simp only [kpB, hq1.out, hq2.out, Bool.true_and]
        rw [Bool.eq_iff_iff]; simp
      cases e1 : (k1 == k2) <;> cases e2 : (p1 == p2)
      all_goals
        have hv := key _ _ e1 e2
        go_enter Tryz.func93, Tryz.ntmps93
        go_wp2_with fail
        refine (kyGood_any k1 p1 z1 A1 c1 _ ((hr1.alloc _).alloc _) (by omega)).mono ?_
        rintro e w1 ⟨rfl, hb1⟩
        have hb := (((Below.refl w.heap.size w).alloc (Nat.le_refl _) _).alloc (by simp) _).trans (hb1.mono (by simp; omega))
        have s1 : w.heap.size + 2 ≤ w1.heap.size := by have := hb1.size; simp at this; omega
        have b1 := ((Bk.new w _ _).alloc _).st hb1
        have b2 := (Bk.new2 w _ _ _).st hb1
        have r2 := ((hr2.alloc _).alloc _).st hb1
        have d0 := b2.cell 0
        have d1 := b2.cell 1
        have d2 := b2.cell 2
        simp at d0 d1 d2
        clear hb1
        go_wp2_with fail
        refine (kyGood_any k2 p2 z2 A2 c2 _ r2 (by omega)).mono ?_
        rintro e w2 ⟨rfl, hb2⟩
        have hb' := hb.trans (hb2.mono (by omega))
        have g1 := b1.st hb2
        have g2 := b2.st hb2
        clear hb hb2 d0 d1 d2 b1 b2
        have a0 := g1.cell 0
        have a1 := g1.cell 1
        have d0 := g2.cell 0
        have d1 := g2.cell 1
        simp at a0 a1 d0 d1
        clear g1 g2
        go_wp2
        go_ret
        exact ⟨by rw [hv.out]; rfl, hb'⟩

set_option maxHeartbeats 1000000 in
theorem sameBook_any (k1 p1 : Int) (z1 : List Int) (A1 : Option Addr) (c1 : Nat) (k2 p2 : Int) (z2 : List Int) (A2 : Option Addr) (c2 : Nat) {l1 h1 l2 h2 : Nat} (w : World) (hr1 : Rd w l1 h1 A1 z1) (hr2 : Rd w l2 h2 A2 z2) (hl1 : z1.length ≤ 1048576) (hl2 : z2.length ≤ 1048576) :
    Calls Tryz.prog 89 #[.agg #[.int .i64 k1, .int .i64 p1, .slice A1 z1.length c1], .agg #[.int .i64 k2, .int .i64 p2, .slice A2 z2.length c2]] w fun e w' => e = .returned (.bool (kpB k1 p1 z1 k2 p2 z2)) ∧ Below w.heap.size w w' := by
  cases q1 : kbB k1 p1 z1 with
  | false =>
    have hv := Lib.hid (show kpB k1 p1 z1 k2 p2 z2 = false by simp [kpB, q1])
    go_enter Tryz.func89, Tryz.ntmps89
    go_wp2_with fail
    refine (iIsKeyBook_any k1 p1 z1 A1 c1 _ ((hr1.alloc _).alloc _) (by omega)).mono ?_
    rintro e w1 ⟨rfl, hb1⟩
    have hb := (((Below.refl w.heap.size w).alloc (Nat.le_refl _) _).alloc (by simp) _).trans (hb1.mono (by simp; omega))
    clear hb1
    go_wp2
    go_ret
    exact ⟨by rw [hv.out]; rfl, hb⟩
  | true =>
    have hq1 := Lib.hid q1
    cases q2 : kbB k2 p2 z2 with
    | false =>
      have hv := Lib.hid (show kpB k1 p1 z1 k2 p2 z2 = false by simp [kpB, q1, q2])
      go_enter Tryz.func89, Tryz.ntmps89
      go_wp2_with fail
      refine (iIsKeyBook_any k1 p1 z1 A1 c1 _ ((hr1.alloc _).alloc _) (by omega)).mono ?_
      rintro e w1 ⟨rfl, hb1⟩
      have hb := (((Below.refl w.heap.size w).alloc (Nat.le_refl _) _).alloc (by simp) _).trans (hb1.mono (by simp; omega))
      have s1 : w.heap.size + 2 ≤ w1.heap.size := by have := hb1.size; simp at this; omega
      have b2 := (Bk.new2 w _ _ _).st hb1
      have r2 := ((hr2.alloc _).alloc _).st hb1
      have d0 := b2.cell 0
      have d1 := b2.cell 1
      have d2 := b2.cell 2
      simp at d0 d1 d2
      clear hb1 b2
      go_wp2_with fail
      refine (iIsKeyBook_any k2 p2 z2 A2 c2 _ r2 (by omega)).mono ?_
      rintro e w2 ⟨rfl, hb2⟩
      have hb' := hb.trans (hb2.mono (by omega))
      clear hb hb2 d0 d1 d2
      go_wp2
      go_ret
      exact ⟨by rw [hv.out]; rfl, hb'⟩
    | true =>
      have hq2 := Lib.hid q2
      have key : ∀ (e1 : Bool) (e2 : Bool), (k1 == k2) = e1 → (p1 == p2) = e2 → Hid (kpB k1 p1 z1 k2 p2 z2 = (e1 && e2)) := by
        intro e1 e2 h1 h2
        show _ = _
        rw [← h1, ← h2]
        simp only [kpB, hq1.out, hq2.out, Bool.true_and]
        rw [Bool.eq_iff_iff]; simp
      cases e1 : (k1 == k2) <;> cases e2 : (p1 == p2)
      all_goals
        have hv := key _ _ e1 e2
        go_enter Tryz.func89, Tryz.ntmps89
        go_wp2_with fail
        refine (iIsKeyBook_any k1 p1 z1 A1 c1 _ ((hr1.alloc _).alloc _) (by omega)).mono ?_
        rintro e w1 ⟨rfl, hb1⟩
        have hb := (((Below.refl w.heap.size w).alloc (Nat.le_refl _) _).alloc (by simp) _).trans (hb1.mono (by simp; omega))
        have s1 : w.heap.size + 2 ≤ w1.heap.size := by have := hb1.size; simp at this; omega
        have b1 := ((Bk.new w _ _).alloc _).st hb1
        have b2 := (Bk.new2 w _ _ _).st hb1
        have r2 := ((hr2.alloc _).alloc _).st hb1
        have d0 := b2.cell 0
        have d1 := b2.cell 1
        have d2 := b2.cell 2
        simp at d0 d1 d2
        clear hb1
        go_wp2_with fail
        refine (iIsKeyBook_any k2 p2 z2 A2 c2 _ r2 (by omega)).mono ?_
        rintro e w2 ⟨rfl, hb2⟩
        have hb' := hb.trans (hb2.mono (by omega))
        have g1 := b1.st hb2
        have g2 := b2.st hb2
        clear hb hb2 d0 d1 d2 b1 b2
        have a0 := g1.cell 0
        have a1 := g1.cell 1
        have d0 := g2.cell 0
        have d1 := g2.cell 1
        simp at a0 a1 d0 d1
        clear g1 g2
        go_wp2
        go_ret
        exact ⟨by rw [hv.out]; rfl, hb'⟩

/-- the pages used in both -/
def duTo (z1 z2 : List Int) (k : Nat) : List Int := (z1.take k).filter fun x => hasB z2 x
theorem duTo_yes {z1 z2 : List Int} {k : Nat} (h : k < z1.length) (h1 : hasB z2 z1[k] = true) : duTo z1 z2 (k + 1) = duTo z1 z2 k ++ [z1[k]] := by
  unfold duTo; rw [List.take_succ_eq_append_getElem h, List.filter_append]; simp [h1]
theorem duTo_no {z1 z2 : List Int} {k : Nat} (h : k < z1.length) (h1 : hasB z2 z1[k] = false) : duTo z1 z2 (k + 1) = duTo z1 z2 k := by
  unfold duTo; rw [List.take_succ_eq_append_getElem h, List.filter_append]; simp [h1]
theorem duTo_len (z1 z2 : List Int) (k : Nat) : (duTo z1 z2 k).length ≤ z1.length := by
  unfold duTo; exact Nat.le_trans (List.length_filter_le _ _) (by rw [List.length_take]; exact Nat.min_le_right _ _)
def duL (k1 p1 : Int) (z1 : List Int) (k2 p2 : Int) (z2 : List Int) : List Int := if kpB k1 p1 z1 k2 p2 z2 then duTo z1 z2 z1.length else []
theorem duL_len (k1 p1 : Int) (z1 : List Int) (k2 p2 : Int) (z2 : List Int) : (duL k1 p1 z1 k2 p2 z2).length ≤ z1.length := by
  unfold duL; split
  · exact duTo_len _ _ _
  · simp

set_option maxHeartbeats 2000000 in
theorem sDoubleUse_any (k1 p1 : Int) (z1 : List Int) (A1 : Option Addr) (c1 : Nat) (k2 p2 : Int) (z2 : List Int) (A2 : Option Addr) (c2 : Nat) {l1 h1 l2 h2 : Nat} (w : World) (hr1 : Rd w l1 h1 A1 z1) (hr2 : Rd w l2 h2 A2 z2) (hl1 : z1.length ≤ 1048576) (hl2 : z2.length ≤ 1048576) :
    Calls Tryz.prog 23 #[.agg #[.int .i64 k1, .int .i64 p1, .slice A1 z1.length c1], .agg #[.int .i64 k2, .int .i64 p2, .slice A2 z2.length c2]] w fun e w' => ∃ A c, e = .returned (.tuple #[.slice A (duL k1 p1 z1 k2 p2 z2).length c, .bool (kpB k1 p1 z1 k2 p2 z2)]) ∧
      Rd w' 0 w'.heap.size A (duL k1 p1 z1 k2 p2 z2) ∧ (duL k1 p1 z1 k2 p2 z2).length ≤ 1048576 ∧ Below w.heap.size w w' := by
  have hlen := Nat.le_trans (duL_len k1 p1 z1 k2 p2 z2) hl1
  cases q : kpB k1 p1 z1 k2 p2 z2 with
  | false =>
    have hv : duL k1 p1 z1 k2 p2 z2 = [] := by simp [duL, q]
    rw [hv] at hlen ⊢
    clear hv
    go_enter Tryz.func23, Tryz.ntmps23
    go_wp2_with (go_at_call 93; refine (kyPair_any k1 p1 z1 A1 c1 k2 p2 z2 A2 c2 _ ((hr1.alloc _).alloc _) ((hr2.alloc _).alloc _) hl1 hl2).mono ?_; rintro e w1 ⟨rfl, hb1⟩)
    go_ret2
    exact ⟨none, 0, rfl, Rd.nil, hlen, (((Below.refl w.heap.size w).alloc (Nat.le_refl _) _).alloc (by simp) _).trans (hb1.mono (by simp; omega))⟩
  | true =>
    have hv : duL k1 p1 z1 k2 p2 z2 = duTo z1 z2 z1.length := by simp [duL, q]
    rw [hv] at hlen ⊢
    clear hv
    go_enter Tryz.func23, Tryz.ntmps23
    go_wp2_with fail
    refine (kyPair_any k1 p1 z1 A1 c1 k2 p2 z2 A2 c2 _ ((hr1.alloc _).alloc _) ((hr2.alloc _).alloc _) hl1 hl2).mono ?_
    rintro e w1 ⟨rfl, hb1⟩
    have hb : Hid (Below w.heap.size w w1) := (((Below.refl w.heap.size w).alloc (Nat.le_refl _) _).alloc (by simp) _).trans (hb1.mono (by simp; omega))
    have s1 : w.heap.size + 2 ≤ w1.heap.size := by have := hb1.size; simp at this; omega
    have b1 := ((Bk.new w _ _).alloc _).st hb1
    have b2 := (Bk.new2 w _ _ _).st hb1
    have r1 := (((hr1.alloc _).alloc _).st hb1).std
    have r2 := (((hr2.alloc _).alloc _).st hb1).std
    have a2 := b1.cell 2
    simp at a2
    clear hb1 hr1 hr2
    go_wp2
    go_loopw [6, 8, 16] (fun v _ i wr => ∃ k : Nat, k ≤ z1.length ∧ i = .int .i64 k ∧ Own wr w1.heap.size wr.heap.size v (duTo z1 z2 k) ∧ Below w1.heap.size w1 wr) (fun _ _ i _ => z1.length - (intOf i).toNat)
    case atStart => exact ⟨0, Nat.zero_le _, rfl, Own.nil, Below.refl _ _⟩
    case round =>
      obtain ⟨k, hk, rfl, hown, hbr⟩ := hrel
      have hdl := duTo_len z1 z2 k
      by_cases hlt : k < z1.length
      · have rr1 := r1.below hbr (Nat.le_refl _)
        have rr2 := r2.below hbr (Nat.le_refl _)
        have g2 := b2.below hbr (by omega)
        have d2 := g2.cell 2
        simp at d2
        obtain ⟨b, off, rfl, _, _, hc⟩ := rr1 (by omega)
        have hck := hc k hlt
        clear hc g2 a2 q
        cases hh : hasB z2 z1[k] with
        | true =>
          have hst := Lib.hid (duTo_yes hlt hh)
          go_wp2_with (first
            | (go_at_call 96; refine (l1Has_any z2 A2 c2 _ _ rr2 (by omega)).mono ?_; rintro e w' ⟨rfl, rfl⟩)
            | (at_builtin; refine wp_append_ints rfl (.tmp 24) (.tmp 26) rfl rfl (hown.alloc _) (ys := [z1[k]]) rfl ((Rd.one wr _ _ _ rfl).mono (Nat.zero_le _) (by simp)) (by simp; omega) (by simp; exact Nat.le_succ_of_le hbr.size) ?_; intro v2 w2 hown2 hg2 hb2 hat2))
          have hb3 : Hid (Below w1.heap.size w1 w2) := (hbr.alloc hbr.size _).trans hb2
          have ho2 := Lib.hid hown2
          clear hown2 hb2 hg2 hat2 hown hbr
          go_roundw
          case rel => exact ⟨k + 1, by omega, by go_num, by rw [hst.out]; exact ho2.out, hb3.out⟩
          case measure => simp [intOf]; omega
        | false =>
          have hst := Lib.hid (duTo_no hlt hh)
          have ho := Lib.hid hown
          clear hown
          go_wp2_with (go_at_call 96; refine (l1Has_any z2 A2 c2 _ _ rr2 (by omega)).mono ?_; rintro e w' ⟨rfl, rfl⟩)
          go_roundw
          case rel => exact ⟨k + 1, by omega, by go_num, by rw [hst.out]; exact ho.out, hbr⟩
          case measure => simp [intOf]; omega
      · obtain rfl : k = z1.length := by omega
        obtain ⟨A, c, rfl, -, -⟩ := hown.rd
        have hbb : Hid (Below w.heap.size w wr) := hb.out.trans (hbr.mono (by omega))
        have ho : Hid (Own wr w.heap.size wr.heap.size _ _) := hown.mono (by omega) (Nat.le_refl _)
        clear hown hbr a2
        go_wp2
        go_ret2
        exact ⟨A, c, rfl, ho.out.rd'.mono (Nat.zero_le _) (Nat.le_refl _), hlen, hbb.out⟩

set_option maxHeartbeats 2000000 in
theorem iDoubleUse_any (k1 p1 : Int) (z1 : List Int) (A1 : Option Addr) (c1 : Nat) (k2 p2 : Int) (z2 : List Int) (A2 : Option Addr) (c2 : Nat) {l1 h1 l2 h2 : Nat} (w : World) (hr1 : Rd w l1 h1 A1 z1) (hr2 : Rd w l2 h2 A2 z2) (hl1 : z1.length ≤ 1048576) (hl2 : z2.length ≤ 1048576) :
    Calls Tryz.prog 22 #[.agg #[.int .i64 k1, .int .i64 p1, .slice A1 z1.length c1], .agg #[.int .i64 k2, .int .i64 p2, .slice A2 z2.length c2]] w fun e w' => ∃ A c, e = .returned (.tuple #[.slice A (duL k1 p1 z1 k2 p2 z2).length c, .bool (kpB k1 p1 z1 k2 p2 z2)]) ∧
      Own w' w.heap.size w'.heap.size (.slice A (duL k1 p1 z1 k2 p2 z2).length c) (duL k1 p1 z1 k2 p2 z2) ∧ (duL k1 p1 z1 k2 p2 z2).length ≤ 1048576 ∧ Below w.heap.size w w' := by
  have hlen := Nat.le_trans (duL_len k1 p1 z1 k2 p2 z2) hl1
  cases q : kpB k1 p1 z1 k2 p2 z2 with
  | false =>
    have hv : duL k1 p1 z1 k2 p2 z2 = [] := by simp [duL, q]
    rw [hv] at hlen ⊢
    clear hv
    go_enter Tryz.func22, Tryz.ntmps22
    go_wp2_with (go_at_call 89; refine (sameBook_any k1 p1 z1 A1 c1 k2 p2 z2 A2 c2 _ ((hr1.alloc _).alloc _) ((hr2.alloc _).alloc _) hl1 hl2).mono ?_; rintro e w1 ⟨rfl, hb1⟩)
    go_ret2
    exact ⟨none, 0, rfl, Own.nil, hlen, (((Below.refl w.heap.size w).alloc (Nat.le_refl _) _).alloc (by simp) _).trans (hb1.mono (by simp; omega))⟩
  | true =>
    have hv : duL k1 p1 z1 k2 p2 z2 = duTo z1 z2 z1.length := by simp [duL, q]
    rw [hv] at hlen ⊢
    clear hv
    go_enter Tryz.func22, Tryz.ntmps22
    go_wp2_with fail
    refine (sameBook_any k1 p1 z1 A1 c1 k2 p2 z2 A2 c2 _ ((hr1.alloc _).alloc _) ((hr2.alloc _).alloc _) hl1 hl2).mono ?_
    rintro e w1 ⟨rfl, hb1⟩
    have hb : Hid (Below w.heap.size w w1) := (((Below.refl w.heap.size w).alloc (Nat.le_refl _) _).alloc (by simp) _).trans (hb1.mono (by simp; omega))
    have s1 : w.heap.size + 2 ≤ w1.heap.size := by have := hb1.size; simp at this; omega
    have b1 := ((Bk.new w _ _).alloc _).st hb1
    have b2 := (Bk.new2 w _ _ _).st hb1
    have r1 := (((hr1.alloc _).alloc _).st hb1).std
    have r2 := (((hr2.alloc _).alloc _).st hb1).std
    have a2 := b1.cell 2
    simp at a2
    clear hb1 hr1 hr2
    go_wp2
    go_loopw [6, 8, 16] (fun v _ i wr => ∃ k : Nat, k ≤ z1.length ∧ i = .int .i64 k ∧ Own wr w1.heap.size wr.heap.size v (duTo z1 z2 k) ∧ Below w1.heap.size w1 wr) (fun _ _ i _ => z1.length - (intOf i).toNat)
    case atStart => exact ⟨0, Nat.zero_le _, rfl, Own.nil, Below.refl _ _⟩
    case round =>
      obtain ⟨k, hk, rfl, hown, hbr⟩ := hrel
      have hdl := duTo_len z1 z2 k
      by_cases hlt : k < z1.length
      · have rr1 := r1.below hbr (Nat.le_refl _)
        have rr2 := r2.below hbr (Nat.le_refl _)
        have g2 := b2.below hbr (by omega)
        have d2 := g2.cell 2
        simp at d2
        obtain ⟨b, off, rfl, _, _, hc⟩ := rr1 (by omega)
        have hck := hc k hlt
        clear hc g2 a2 q
        cases hh : hasB z2 z1[k] with
        | true =>
          have hst := Lib.hid (duTo_yes hlt hh)
          go_wp2_with (first
            | (go_at_call 87; refine (Contains_any z2 A2 c2 _ _ rr2 (by omega)).mono ?_; rintro e w' ⟨rfl, rfl⟩)
            | (at_builtin; refine wp_append_ints rfl (.tmp 24) (.tmp 26) rfl rfl (hown.alloc _) (ys := [z1[k]]) rfl ((Rd.one wr _ _ _ rfl).mono (Nat.zero_le _) (by simp)) (by simp; omega) (by simp; exact Nat.le_succ_of_le hbr.size) ?_; intro v2 w2 hown2 hg2 hb2 hat2))
          have hb3 : Hid (Below w1.heap.size w1 w2) := (hbr.alloc hbr.size _).trans hb2
          have ho2 := Lib.hid hown2
          clear hown2 hb2 hg2 hat2 hown hbr
          go_roundw
          case rel => exact ⟨k + 1, by omega, by go_num, by rw [hst.out]; exact ho2.out, hb3.out⟩
          case measure => simp [intOf]; omega
        | false =>
          have hst := Lib.hid (duTo_no hlt hh)
          have ho := Lib.hid hown
          clear hown
          go_wp2_with (go_at_call 87; refine (Contains_any z2 A2 c2 _ _ rr2 (by omega)).mono ?_; rintro e w' ⟨rfl, rfl⟩)
          go_roundw
          case rel => exact ⟨k + 1, by omega, by go_num, by rw [hst.out]; exact ho.out, hbr⟩
          case measure => simp [intOf]; omega
      · obtain rfl : k = z1.length := by omega
        obtain ⟨A, c, rfl, -, -⟩ := hown.rd
        have hbb : Hid (Below w.heap.size w wr) := hb.out.trans (hbr.mono (by omega))
        have ho : Hid (Own wr w.heap.size wr.heap.size _ _) := hown.mono (by omega) (Nat.le_refl _)
        clear hown hbr a2
        go_wp2
        go_ret2
        exact ⟨A, c, rfl, ho.out, hlen, hbb.out⟩

end Go.Proofs.YtjhbffndiaggmaaGreatDoor

/-
  Contracts on the pages of a key book. The conditions are bounds on lengths.
-/
namespace Go.Proofs.YtjhbffndiaggmaaGreatDoor
open Go.RowKit Go.ChangeShapes Go.WideShapes
set_option linter.unusedVariables false

def pgB (k1 p1 : Int) (z1 : List Int) (page : Int) : Bool := kbB k1 p1 z1 && inB page 0 (p1 - 1)
def pageL (key page : Int) : List Int := (List.range 20).map fun k : Nat => mixL [key, page, (k : Int)] % 60
theorem pageL_len (key page : Int) : (pageL key page).length = 20 := by simp [pageL]
theorem pageL_at (key page : Int) (k : Nat) (h : k < (pageL key page).length) : (pageL key page)[k] = mixL [key, page, (k : Int)] % 60 := by simp [pageL]
def pgL (k1 p1 : Int) (z1 : List Int) (page : Int) : List Int := if pgB k1 p1 z1 page then pageL k1 page else []
def pageTo (key page : Int) (k : Nat) : List Int := (pageL key page).take k
theorem pageTo_succ (key page : Int) (k : Nat) (h : k < 20) : pageTo key page (k + 1) = pageTo key page k ++ [mixL [key, page, (k : Int)] % 60] := by
  unfold pageTo
  rw [List.take_succ_eq_append_getElem (by rw [pageL_len]; exact h), pageL_at]
theorem pgB_bd {k1 p1 : Int} {z1 : List Int} {page : Int} (h : pgB k1 p1 z1 page = true) : (0 ≤ k1 ∧ k1 ≤ 1000000000) ∧ 0 ≤ page ∧ page ≤ 59 := by
  simp only [pgB, kbB, Bool.and_eq_true, inB_iff] at h
  omega
theorem pageKeys {key page : Int} {k : Nat} (h1 : 0 ≤ key ∧ key ≤ 1000000000) (h2 : 0 ≤ page ∧ page ≤ 59) (h3 : k < 20) : allB [key, page, (k : Int)] 0 1000000000 = true := by
  simp [allB]; omega

set_option maxHeartbeats 400000 in
theorem kyHas_any (k1 p1 : Int) (z1 : List Int) (A1 : Option Addr) (c1 : Nat) (page : Int) {l h : Nat} (w : World) (hr : Rd w l h A1 z1) (hl : z1.length ≤ 1048576) :
    Calls Tryz.prog 98 #[.agg #[.int .i64 k1, .int .i64 p1, .slice A1 z1.length c1], .int .i64 page] w fun e w' => e = .returned (.bool (pgB k1 p1 z1 page)) ∧ Below w.heap.size w w' := by
  cases q : kbB k1 p1 z1 with
  | false =>
    have hv := Lib.hid (show pgB k1 p1 z1 page = false by simp [pgB, q])
    go_enter Tryz.func98, Tryz.ntmps98
    go_wp2_with fail
    refine (kyGood_any k1 p1 z1 A1 c1 _ (hr.alloc _) (by omega)).mono ?_
    rintro e w1 ⟨rfl, hb1⟩
    have hb := ((Below.refl w.heap.size w).alloc (Nat.le_refl _) _).trans (hb1.mono (by simp))
    clear hb1
    go_wp2
    go_ret
    exact ⟨by rw [hv.out]; rfl, hb⟩
  | true =>
    have hv := Lib.hid (show pgB k1 p1 z1 page = inB page 0 (p1 - 1) by simp [pgB, q])
    have hp : 1 ≤ p1 ∧ p1 ≤ 60 := by simp only [kbB, Bool.and_eq_true] at q; exact inB_iff.1 q.2.1
    go_enter Tryz.func98, Tryz.ntmps98
    go_wp2_with fail
    refine (kyGood_any k1 p1 z1 A1 c1 _ (hr.alloc _) (by omega)).mono ?_
    rintro e w1 ⟨rfl, hb1⟩
    have hb := ((Below.refl w.heap.size w).alloc (Nat.le_refl _) _).trans (hb1.mono (by simp))
    have b1 := (Bk.new w _ _).st hb1
    have a1 := b1.cell 1
    simp at a1
    clear hb1 b1
    go_wp2_with (go_at_call 104; refine (l1In_any _ _ _ _).mono ?_; rintro e w' ⟨rfl, rfl⟩)
    go_ret
    exact ⟨by rw [hv.out]; rfl, hb⟩

set_option maxHeartbeats 400000 in
theorem isPage_any (k1 p1 : Int) (z1 : List Int) (A1 : Option Addr) (c1 : Nat) (page : Int) {l h : Nat} (w : World) (hr : Rd w l h A1 z1) (hl : z1.length ≤ 1048576) :
    Calls Tryz.prog 86 #[.agg #[.int .i64 k1, .int .i64 p1, .slice A1 z1.length c1], .int .i64 page] w fun e w' => e = .returned (.bool (pgB k1 p1 z1 page)) ∧ Below w.heap.size w w' := by
  cases q : kbB k1 p1 z1 with
  | false =>
    have hv := Lib.hid (show pgB k1 p1 z1 page = false by simp [pgB, q])
    go_enter Tryz.func86, Tryz.ntmps86
    go_wp2_with fail
    refine (iIsKeyBook_any k1 p1 z1 A1 c1 _ (hr.alloc _) (by omega)).mono ?_
    rintro e w1 ⟨rfl, hb1⟩
    have hb := ((Below.refl w.heap.size w).alloc (Nat.le_refl _) _).trans (hb1.mono (by simp))
    clear hb1
    go_wp2
    go_ret
    exact ⟨by rw [hv.out]; rfl, hb⟩
  | true =>
    have hv := Lib.hid (show pgB k1 p1 z1 page = inB page 0 (p1 - 1) by simp [pgB, q])
    have hp : 1 ≤ p1 ∧ p1 ≤ 60 := by simp only [kbB, Bool.and_eq_true] at q; exact inB_iff.1 q.2.1
    go_enter Tryz.func86, Tryz.ntmps86
    go_wp2_with fail
    refine (iIsKeyBook_any k1 p1 z1 A1 c1 _ (hr.alloc _) (by omega)).mono ?_
    rintro e w1 ⟨rfl, hb1⟩
    have hb := ((Below.refl w.heap.size w).alloc (Nat.le_refl _) _).trans (hb1.mono (by simp))
    have b1 := (Bk.new w _ _).st hb1
    have a1 := b1.cell 1
    simp at a1
    clear hb1 b1
    go_wp2_with (go_at_call 79; refine (within_any _ _ _ _).mono ?_; rintro e w' ⟨rfl, rfl⟩)
    go_ret
    exact ⟨by rw [hv.out]; rfl, hb⟩

set_option maxHeartbeats 1000000 in
theorem pageOf_any (k1 p1 : Int) (z1 : List Int) (A1 : Option Addr) (c1 : Nat) (page : Int) (w : World) (h1 : 0 ≤ k1 ∧ k1 ≤ 1000000000) (h2 : 0 ≤ page ∧ page ≤ 59) :
    Calls Tryz.prog 110 #[.agg #[.int .i64 k1, .int .i64 p1, .slice A1 z1.length c1], .int .i64 page] w fun e w' => ∃ A c, e = .returned (.slice A (pageL k1 page).length c) ∧ Own w' w.heap.size w'.heap.size (.slice A (pageL k1 page).length c) (pageL k1 page) ∧ Below w.heap.size w w' := by
  go_enter Tryz.func110, Tryz.ntmps110
  go_wp2_with (at_make; refine wp_make_ints rfl _ _ rfl 20 rfl rfl (by omega) ?_; intro w1 hown1 hb1 hs1)
  have b1 : Bk w1 w.heap.size 26 _ := (Bk.new w _ _).st hb1
  have hb := ((Below.refl w.heap.size w).alloc (Nat.le_refl _) (.cells #[.int .i64 k1, .int .i64 p1, .slice A1 z1.length c1] 26)).trans (hb1.mono (by simp))
  have es : Hid ((w.alloc (.cells #[.int .i64 k1, .int .i64 p1, .slice A1 z1.length c1] 26)).heap.size = w.heap.size + 1) := by show _ = _; simp
  have hz : Hid (List.replicate 20 (0 : Int) = tk (pageL k1 page) 0) := by show _ = _; rw [tk_zero, pageL_len]
  have ho1 : Hid (Own w1 (w.heap.size + 1) (w.heap.size + 2) (.slice (some ⟨w.heap.size + 1, 0, none⟩) 20 20) (tk (pageL k1 page) 0)) := by
    show Own _ _ _ _ _
    rw [es.out] at hown1
    rw [← hz.out]
    exact hown1.mono (Nat.le_refl _) (by rw [hs1, es.out]; omega)
  have hs2 : w.heap.size + 2 ≤ w1.heap.size := by rw [hs1, es.out]; omega
  clear hown1 hs1 hb1
  go_loopw [6, 10] (fun _ i wr => ∃ k : Nat, k ≤ 20 ∧ i = .int .i64 k ∧ Own wr (w.heap.size + 1) (w.heap.size + 2) (.slice (some ⟨w.heap.size + 1, 0, none⟩) 20 20) (tk (pageL k1 page) k) ∧
      Bk wr w.heap.size 26 #[.int .i64 k1, .int .i64 p1, .slice A1 z1.length c1] ∧ Below w.heap.size w wr ∧ w.heap.size + 2 ≤ wr.heap.size) (fun _ i _ => 20 - (intOf i).toNat)
  case atStart => exact ⟨0, by omega, rfl, ho1.out, b1, hb, hs2⟩
  case round =>
    clear ho1 b1 hb hs2 hz es
    obtain ⟨k, hk, rfl, hown, hbk, hbr, hsr⟩ := hrel
    by_cases hlt : k < 20
    · have a0 := hbk.cell 0
      simp at a0
      have hm := mixL_bd [k1, page, (k : Int)]
      have hst0 := tk_succ (pageL k1 page) k (by rw [pageL_len]; exact hlt)
      rw [pageL_at] at hst0
      have hst := Lib.hid hst0
      clear hst0
      go_wp2_with fail
      refine (mixOf_any [k1, page, (k : Int)] (some ⟨wr.heap.size, 0, none⟩) 3 _ (Rd.one wr _ _ [k1, page, (k : Int)] rfl) (by simp) (pageKeys h1 h2 hlt)).mono ?_
      rintro e w2 ⟨rfl, hb2⟩
      have s2 : wr.heap.size + 1 ≤ w2.heap.size := by have := hb2.size; simpa using this
      have ho2 := (hown.alloc _).st hb2
      have hk2 := Lib.hid ((hbk.alloc _).st hb2)
      have hB2 := (hbr.alloc (by omega) _).trans (hb2.mono (by simp; omega))
      obtain ⟨g, c', he, _, _, _, hcell, hfr⟩ := ho2.at_ (by rw [tk_length _ _ (by rw [pageL_len]; exact hk), pageL_len]; omega)
      injection he with e1 e2 e3
      injection e1 with e1
      injection e1 with e1 e4
      subst e1
      have hf := hfr k
      obtain ⟨x, hcd⟩ : ∃ x, w2.cell? ⟨w.heap.size + 1, k, none⟩ = some (.int .i64 x) := ⟨_, hcell k (by rw [tk_length _ _ (by rw [pageL_len]; exact hk), pageL_len]; omega)⟩
      have hst2 := Lib.hid (ho2.stored (j := k) (mixL [k1, page, (k : Int)] % 60))
      have hB3 := Lib.hid (hB2.setCell (p := ⟨w.heap.size + 1, k, none⟩) (by dsimp only; omega) (.int .i64 (mixL [k1, page, (k : Int)] % 60)))
      have hk3 : Hid (Bk (w2.setCell ⟨w.heap.size + 1, k, none⟩ (.int .i64 (mixL [k1, page, (k : Int)] % 60))) w.heap.size 26 _) := hk2.out.far (by dsimp only; omega) _
      clear hcell hfr e2 e3 e4 ho2 hk2 hB2 hb2 hown hbk hbr a0
      go_wp2
      go_roundw
      case rel => exact ⟨k + 1, by omega, by go_num, by rw [← hst.out]; exact hst2.out, hk3.out, hB3.out, by rw [size_setCell]; omega⟩
      case measure => simp [intOf]; omega
    · obtain rfl : k = 20 := by omega
      have hl20 : (pageL k1 page).length = 20 := pageL_len k1 page
      have hfin : Hid (tk (pageL k1 page) 20 = pageL k1 page) := by show _ = _; rw [← hl20]; exact tk_all _
      rw [hfin.out] at hown
      have ho : Hid (Own wr w.heap.size wr.heap.size (.slice (some ⟨w.heap.size + 1, 0, none⟩) (pageL k1 page).length 20) (pageL k1 page)) := by rw [hl20]; exact hown.mono (by omega) hsr
      have hll := Lib.hid hl20
      clear hl20 hown
      go_wp2
      go_ret
      exact ⟨_, _, by rw [hll.out]; rfl, ho.out, hbr⟩
set_option maxHeartbeats 1000000 in
theorem kyPage_any (k1 p1 : Int) (z1 : List Int) (A1 : Option Addr) (c1 : Nat) (page : Int) (w : World) (h1 : 0 ≤ k1 ∧ k1 ≤ 1000000000) (h2 : 0 ≤ page ∧ page ≤ 59) :
    Calls Tryz.prog 113 #[.agg #[.int .i64 k1, .int .i64 p1, .slice A1 z1.length c1], .int .i64 page] w fun e w' => ∃ A c, e = .returned (.slice A (pageL k1 page).length c) ∧ Own w' w.heap.size w'.heap.size (.slice A (pageL k1 page).length c) (pageL k1 page) ∧ Below w.heap.size w w' := by
  go_enter Tryz.func113, Tryz.ntmps113
  go_wp2
  go_loopw [5, 6] (fun v i wr => ∃ k : Nat, k ≤ 20 ∧ i = .int .i64 k ∧ Own wr (w.heap.size + 1) wr.heap.size v (pageTo k1 page k) ∧
      Bk wr w.heap.size 26 #[.int .i64 k1, .int .i64 p1, .slice A1 z1.length c1] ∧ Below w.heap.size w wr ∧ w.heap.size + 1 ≤ wr.heap.size) (fun _ i _ => 20 - (intOf i).toNat)
  case atStart => exact ⟨0, by omega, rfl, Own.nil, Bk.new w _ _, (Below.refl _ _).alloc (Nat.le_refl _) _, by simp⟩
  case round =>
    obtain ⟨k, hk, rfl, hown, hbk, hbr, hsr⟩ := hrel
    by_cases hlt : k < 20
    · have a0 := hbk.cell 0
      simp at a0
      have hm := mixL_bd [k1, page, (k : Int)]
      have hpl : Hid ((pageTo k1 page k).length = k) := by show _ = _; rw [pageTo, List.length_take, pageL_len]; omega
      have hst := Lib.hid (pageTo_succ k1 page k hlt)
      go_wp2_with fail
      refine (kyMix_any [k1, page, (k : Int)] (some ⟨wr.heap.size, 0, none⟩) 3 _ (Rd.one wr _ _ [k1, page, (k : Int)] rfl) (by simp) (pageKeys h1 h2 hlt)).mono ?_
      rintro e w2 ⟨rfl, hb2⟩
      have s2 : wr.heap.size + 1 ≤ w2.heap.size := by have := hb2.size; simpa using this
      have ho2 := (hown.alloc _).st hb2
      have hk2 := (hbk.alloc _).st hb2
      have hB2 := (hbr.alloc (by omega) _).trans (hb2.mono (by simp; omega))
      clear hown hbk hbr a0 hb2
      go_wp2_with (at_builtin; refine wp_append_ints rfl (.tmp 11) (.tmp 19) rfl rfl (ho2.alloc _) (ys := [mixL [k1, page, (k : Int)] % 60]) rfl ((Rd.one w2 _ _ _ rfl).mono (Nat.zero_le _) (by simp)) (by rw [hpl.out]; simp; omega) (by simp; omega) ?_; intro v3 w3 hown3 hg3 hb3 hat3)
      have hB3 : Hid (Below w.heap.size w w3) := (hB2.alloc (by omega) _).trans (hb3.mono (by omega))
      have hk3 : Hid (Bk w3 w.heap.size 26 _) := (hk2.alloc _).below hb3 (by omega)
      have s3 : w2.heap.size + 1 ≤ w3.heap.size := by have := hb3.size; simpa using this
      have ho3 := Lib.hid hown3
      clear hown3 hg3 hb3 hat3 ho2 hk2 hB2
      go_roundw
      case rel => exact ⟨k + 1, by omega, by go_num, by rw [hst.out]; exact ho3.out, hk3.out, hB3.out, by omega⟩
      case measure => simp [intOf]; omega
    · obtain rfl : k = 20 := by omega
      have hl20 : (pageL k1 page).length = 20 := pageL_len k1 page
      have hfin : Hid (pageTo k1 page 20 = pageL k1 page) := by show _ = _; rw [pageTo, List.take_of_length_le (by omega)]
      rw [hfin.out] at hown
      obtain ⟨A, c, rfl, -, -⟩ := hown.rd
      have ho : Hid (Own wr w.heap.size wr.heap.size (.slice A (pageL k1 page).length c) (pageL k1 page)) := hown.mono (by omega) (Nat.le_refl _)
      clear hl20 hown
      go_wp2
      go_ret
      exact ⟨_, _, rfl, ho.out, hbr⟩



end Go.Proofs.YtjhbffndiaggmaaGreatDoor
