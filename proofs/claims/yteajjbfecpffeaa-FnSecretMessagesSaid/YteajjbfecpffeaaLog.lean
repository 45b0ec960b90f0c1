/-
  Contracts on slices of log entries: the statements' helpers (size, copy, equality) and the search for an entry. The conditions are bounds on lengths.
-/
import Derived.Test.YteajjbfecpffeaaMemE
import Derived.Deep.RegionHeld3
namespace Go.Proofs.Yteajjbfecpffeaa
open Go.RowKit Go.ChangeShapes Go.WideShapes
set_option linter.unusedVariables false

theorem OwnE.at_ {w : World} {lo hi g n c k : Nat} {es : List Ent} (h : OwnE w lo hi (.slice (some ⟨g, 0, none⟩) n c) es) (hk : k < es.length) : lo ≤ g ∧ g < hi ∧ g < w.heap.size ∧
    (∃ x0, w.cell? ⟨g, k * 5, none⟩ = some x0) ∧ (∃ x1, w.cell? ⟨g, k * 5 + 1, none⟩ = some x1) ∧ (∃ x2, w.cell? ⟨g, k * 5 + 2, none⟩ = some x2) ∧ (∃ x3, w.cell? ⟨g, k * 5 + 3, none⟩ = some x3) ∧ (∃ x4, w.cell? ⟨g, k * 5 + 4, none⟩ = some x4) ∧ ∀ j, w.frozen? ⟨g, j, none⟩ = false := by
  rcases h with ⟨h, _⟩ | ⟨g', cap, cur, U, V, e0, a1, a2, hg, c1, c2, c3, hj, hdj⟩
  · cases h
  · injection e0 with e1 e2 e3
    injection e1 with e1
    injection e1 with e1
    subst e1
    obtain ⟨⟨x0, x1, x2, x3, x4⟩, _⟩ := hj k hk
    have hc : ∀ i, w.cell? ⟨g, i, none⟩ = cur[i]? := fun i => cell_of_row w g i cur _ _ hg
    exact ⟨a1, a2, (Array.getElem?_eq_some_iff.1 hg).1, ⟨_, (hc _).trans x0⟩, ⟨_, (hc _).trans x1⟩, ⟨_, (hc _).trans x2⟩, ⟨_, (hc _).trans x3⟩, ⟨_, (hc _).trans x4⟩, fun j => by simp [World.frozen?, hg]⟩

set_option maxHeartbeats 1000000 in
theorem szEntryS_yes (es : List Ent) (A : Option Addr) (c : Nat) (left : Int) {l h : Nat} (w : World) (hle : ((eszL es : Nat) : Int) ≤ left) (hr0 : RdE w l h A es) (hl : es.length ≤ 9223372036854775807)
    (hv : ∀ x ∈ es, x.seen.length ≤ 9223372036854775807 ∧ x.shown.length ≤ 9223372036854775807) (h1 : left ≤ 1048576) :
    Calls Try.prog 6 #[.slice A es.length c, .int .i64 left] w fun e w' => e = .returned (.int .i64 (left - ((eszL es : Nat) : Int))) ∧ Below w.heap.size w w' := by
  have hr := hr0.std
  clear hr0
  have hsz : Hid (eszL es = es.length + psum es es.length) := Lib.hid rfl
  have hlen : (es.length : Int) ≤ left := by have := hsz.out; omega
  have hps : ((psum es es.length : Nat) : Int) ≤ left - (es.length : Int) := by have := hsz.out; omega
  have ht0 : ¬ left - (es.length : Int) < 0 := by omega
  have hfin : Hid (left - ((eszL es : Nat) : Int) = left - (es.length : Int) - ((psum es es.length : Nat) : Int)) := by show _ = _; rw [hsz.out]; omega
  clear hle
  go_enter Try.func6, Try.ntmps6
  go_wp2
  go_loopw [1, 5] (fun q i wr => ∃ k : Nat, k ≤ es.length ∧ i = .int .i64 k ∧ q = .int .i64 (left - (es.length : Int) - ((psum es k : Nat) : Int)) ∧ Below w.heap.size w wr) (fun _ i _ => es.length - (intOf i).toNat)
  case atStart => exact ⟨0, Nat.zero_le _, rfl, by rw [psum_zero]; simp, Below.refl _ _⟩
  case round =>
    obtain ⟨k, hk, rfl, rfl, hbr⟩ := hrel
    have hpk := psum_le es k
    by_cases hlt : k < es.length
    · obtain ⟨b, off, rfl, _, _, hc⟩ := (hr.below hbr (Nat.le_refl _)) (by omega)
      obtain ⟨A1, c1, A2, c2, x0, x1, x2, x3, x4, r1, r2⟩ := hc k hlt
      have hpk1 := psum_le es (k + 1)
      have hps1 := psum_succ es k hlt
      have hbd := hv es[k] (List.getElem_mem hlt)
      have hq : ((es[k].seen.length + es[k].shown.length : Nat) : Int) ≤ left - (es.length : Int) - ((psum es k : Nat) : Int) := by omega
      have hge : ¬ left - (es.length : Int) - ((psum es k : Nat) : Int) - ((es[k].seen.length + es[k].shown.length : Nat) : Int) < 0 := by omega
      have hgoal : Hid (left - (es.length : Int) - ((psum es (k + 1) : Nat) : Int) = left - (es.length : Int) - ((psum es k : Nat) : Int) - ((es[k].seen.length + es[k].shown.length : Nat) : Int)) := by show _ = _; rw [hps1]; omega
      have hle1 : left - (es.length : Int) - ((psum es k : Nat) : Int) ≤ 1048576 := by omega
      clear hc hps1 hpk1 hv
      go_wp2_with fail
      refine (szEntry_yes es[k].time es[k].msg es[k].part es[k].seen A1 c1 es[k].shown A2 c2 _ _ hq hbd.1 hbd.2 hle1).mono ?_
      rintro e w2 ⟨rfl, hb2⟩
      have hb3 := Lib.hid (hbr.trans (hb2.mono hbr.size))
      clear hb2 x0 x1 x2 x3 x4 r1 r2
      go_wp2
      go_roundw
      case rel => exact ⟨k + 1, by omega, by go_num, by rw [hgoal.out, Int.natCast_add], hb3.out⟩
      case measure => simp [intOf]; omega
    · obtain rfl : k = es.length := by omega
      go_wp2
      go_ret
      exact ⟨by rw [hfin.out]; rfl, hbr⟩

set_option maxHeartbeats 1000000 in
theorem szEntryS_no (es : List Ent) (A : Option Addr) (c : Nat) (left : Int) {l h : Nat} (w : World) (hle : left < ((eszL es : Nat) : Int)) (hr0 : RdE w l h A es) (hl : es.length ≤ 9223372036854775807)
    (hv : ∀ x ∈ es, x.seen.length ≤ 9223372036854775807 ∧ x.shown.length ≤ 9223372036854775807) (h1 : 0 ≤ left ∧ left ≤ 1048576) :
    Calls Try.prog 6 #[.slice A es.length c, .int .i64 left] w fun e w' => e = .returned (.int .i64 (-1)) ∧ Below w.heap.size w w' := by
  have hr := hr0.std
  clear hr0
  have hsz : Hid (eszL es = es.length + psum es es.length) := Lib.hid rfl
  by_cases ht0 : left - (es.length : Int) < 0
  · go_enter Try.func6, Try.ntmps6
    go_wp2
    go_ret
    exact ⟨rfl, Below.refl _ _⟩
  · have hps : left - (es.length : Int) < ((psum es es.length : Nat) : Int) := by have := hsz.out; omega
    clear hle
    go_enter Try.func6, Try.ntmps6
    go_wp2
    go_loopw [1, 5] (fun q i wr => ∃ k : Nat, k ≤ es.length ∧ i = .int .i64 k ∧ q = .int .i64 (left - (es.length : Int) - ((psum es k : Nat) : Int)) ∧ ((psum es k : Nat) : Int) ≤ left - (es.length : Int) ∧ Below w.heap.size w wr) (fun _ i _ => es.length - (intOf i).toNat)
    case atStart => exact ⟨0, Nat.zero_le _, rfl, by rw [psum_zero]; simp, by rw [psum_zero]; simp at ht0 ⊢; omega, Below.refl _ _⟩
    case round =>
      obtain ⟨k, hk, rfl, rfl, hpk, hbr⟩ := hrel
      by_cases hlt : k < es.length
      · obtain ⟨b, off, rfl, _, _, hc⟩ := (hr.below hbr (Nat.le_refl _)) (by omega)
        obtain ⟨A1, c1, A2, c2, x0, x1, x2, x3, x4, r1, r2⟩ := hc k hlt
        have hps1 := psum_succ es k hlt
        have hbd := hv es[k] (List.getElem_mem hlt)
        have hle1 : left - (es.length : Int) - ((psum es k : Nat) : Int) ≤ 1048576 := by omega
        have hle0 : 0 ≤ left - (es.length : Int) - ((psum es k : Nat) : Int) := by omega
        by_cases hq : ((es[k].seen.length + es[k].shown.length : Nat) : Int) ≤ left - (es.length : Int) - ((psum es k : Nat) : Int)
        · have hge : ¬ left - (es.length : Int) - ((psum es k : Nat) : Int) - ((es[k].seen.length + es[k].shown.length : Nat) : Int) < 0 := by omega
          have hgoal : Hid (left - (es.length : Int) - ((psum es (k + 1) : Nat) : Int) = left - (es.length : Int) - ((psum es k : Nat) : Int) - ((es[k].seen.length + es[k].shown.length : Nat) : Int)) := by show _ = _; rw [hps1]; omega
          have hpk2 : ((psum es (k + 1) : Nat) : Int) ≤ left - (es.length : Int) := by rw [hps1]; omega
          clear hc hps1 hv
          go_wp2_with fail
          refine (szEntry_yes es[k].time es[k].msg es[k].part es[k].seen A1 c1 es[k].shown A2 c2 _ _ hq hbd.1 hbd.2 hle1).mono ?_
          rintro e w2 ⟨rfl, hb2⟩
          have hb3 := Lib.hid (hbr.trans (hb2.mono hbr.size))
          clear hb2 x0 x1 x2 x3 x4 r1 r2
          go_wp2
          go_roundw
          case rel => exact ⟨k + 1, by omega, by go_num, by rw [hgoal.out, Int.natCast_add], hpk2, hb3.out⟩
          case measure => simp [intOf]; omega
        · have hq' : left - (es.length : Int) - ((psum es k : Nat) : Int) < ((es[k].seen.length + es[k].shown.length : Nat) : Int) := by omega
          clear hc hps1 hv hq
          go_wp2_with fail
          refine (szEntry_no es[k].time es[k].msg es[k].part es[k].seen A1 c1 es[k].shown A2 c2 _ _ hq' hbd.1 hbd.2 ⟨hle0, hle1⟩).mono ?_
          rintro e w2 ⟨rfl, hb2⟩
          have hb3 := Lib.hid (hbr.trans (hb2.mono hbr.size))
          clear hb2 x0 x1 x2 x3 x4 r1 r2
          go_wp2
          go_ret
          exact ⟨rfl, hb3.out⟩
      · exfalso
        obtain rfl : k = es.length := by omega
        omega
set_option maxHeartbeats 2000000 in
theorem toEntryS_any (es : List Ent) (A : Option Addr) (c : Nat) {l h : Nat} (w : World) (hr0 : RdE w l h A es) (hl : eszL es ≤ 1048576) :
    Calls Try.prog 8 #[.slice A es.length c] w fun e w' => ∃ A' c', e = .returned (.slice A' es.length c') ∧ OwnE w' w.heap.size w'.heap.size (.slice A' es.length c') es ∧ Below w.heap.size w w' := by
  have hr := hr0.std
  clear hr0
  have hel := esz_len es
  go_enter Try.func8, Try.ntmps8
  go_wp2_with (at_make; refine wp_make_ents rfl _ _ rfl es.length rfl rfl (by omega) ?_; intro w1 hown1 hb1 hs1)
  go_loopw [4] (fun i wr => ∃ k : Nat, k ≤ es.length ∧ i = .int .i64 k ∧ OwnE wr w.heap.size wr.heap.size (.slice (some ⟨w.heap.size, 0, none⟩) es.length es.length) (tkE es k) ∧ Below w.heap.size w wr ∧ w.heap.size + 1 ≤ wr.heap.size) (fun i _ => es.length - (intOf i).toNat)
  case atStart => exact ⟨0, Nat.zero_le _, rfl, by rw [tkE_zero]; exact hown1, hb1, by omega⟩
  case round =>
    clear hown1 hb1 hs1
    obtain ⟨k, hk, rfl, hown, hbr, hsr⟩ := hrel
    by_cases hlt : k < es.length
    · obtain ⟨b, off, rfl, _, _, hc⟩ := (hr.below hbr (Nat.le_refl _)) (by omega)
      obtain ⟨A1, c1, A2, c2, x0, x1, x2, x3, x4, r1, r2⟩ := hc k hlt
      have hat := esz_at es k hlt
      clear hc
      go_wp2_with fail
      refine (toEntry_any es[k].time es[k].msg es[k].part es[k].seen A1 c1 es[k].shown A2 c2 _ r1 r2 (by omega) (by omega)).mono ?_
      rintro e w2 ⟨A3, c3, A4, c4, rfl, o3, o4, dj, hb2⟩
      have ho2 := hown.st hb2
      have hst := ho2.stored (by rw [tkE_length _ _ hk]; exact hlt) es[k] _ _ o3 o4 dj (by omega) hb2.size
      rw [tkE_succ es k hlt] at hst
      have hstH := Lib.hid hst
      have hsz2 := hb2.size
      have hB2 := hbr.trans (hb2.mono hbr.size)
      have hB3 := Lib.hid (setEnt_below (o := k * 5) hB2 (Nat.le_refl _) es[k] (.slice A3 es[k].seen.length c3) (.slice A4 es[k].shown.length c4))
      obtain ⟨_, _, _, ⟨y0, z0⟩, ⟨y1, z1⟩, ⟨y2, z2⟩, ⟨y3, z3⟩, ⟨y4, z4⟩, hfr⟩ := ho2.at_ (by rw [tkE_length _ _ hk]; exact hlt)
      have f0 := hfr (k * 5)
      have f1 := hfr (k * 5 + 1)
      have f2 := hfr (k * 5 + 2)
      have f3 := hfr (k * 5 + 3)
      have f4 := hfr (k * 5 + 4)
      clear hst ho2 hown hB2 hb2 hbr hfr o3 o4 dj x0 x1 x2 x3 x4 r1 r2 hat
      go_wp2
      go_roundw
      case rel => exact ⟨k + 1, by omega, by go_num, by simp only [size_setCell]; exact hstH.out, hB3.out, by simp only [size_setCell]; omega⟩
      case measure => simp [intOf]; omega
    · obtain rfl : k = es.length := by omega
      rw [tkE_all] at hown
      have ho := Lib.hid hown
      clear hown
      go_wp2
      go_ret
      exact ⟨_, _, rfl, ho.out, hbr⟩
set_option maxHeartbeats 4000000 in
theorem eqEntryS_b (es : List Ent) (A : Option Addr) (c : Nat) (es2 : List Ent) (A' : Option Addr) (c' : Nat) {l h l' h' : Nat} (w : World) (hx0 : RdE w l h A es) (hy0 : RdE w l' h' A' es2) (hl : eszL es ≤ 1048576) (hl2 : eszL es2 ≤ 1048576) (he : es = es2 := by rfl) :
    Calls Try.prog 10 #[.slice A es.length c, .slice A' es2.length c'] w fun e w' => e = .returned (.bool true) ∧ Below w.heap.size w w' := by
  subst he
  have hx := hx0.std
  have hy := hy0.std
  clear hx0 hy0
  have hel := esz_len es
  go_enter Try.func10, Try.ntmps10
  go_wp2
  go_loopw [5] (fun i wr => ∃ k : Nat, k ≤ es.length ∧ i = .int .i64 k ∧ Below w.heap.size w wr) (fun i _ => es.length - (intOf i).toNat)
  case atStart => exact ⟨0, Nat.zero_le _, rfl, Below.refl _ _⟩
  case round =>
    obtain ⟨k, hk, rfl, hbr⟩ := hrel
    by_cases hlt : k < es.length
    · obtain ⟨b, off, rfl, _, _, hc⟩ := (hx.below hbr (Nat.le_refl _)) (by omega)
      obtain ⟨A1, c1, A2, c2, x0, x1, x2, x3, x4, r1, r2⟩ := hc k hlt
      obtain ⟨b', off', rfl, _, _, hc'⟩ := (hy.below hbr (Nat.le_refl _)) (by omega)
      obtain ⟨A3, c3, A4, c4, y0, y1, y2, y3, y4, r3, r4⟩ := hc' k hlt
      have hat := esz_at es k hlt
      have hszr := hbr.size
      have bb1 : b < wr.heap.size := by omega
      have bb2 : b' < wr.heap.size := by omega
      have hq := eqEn_self es[k].time es[k].msg es[k].part es[k].seen es[k].shown
      have i0 : (0 : Int) ≤ (k : Int) := by omega
      have i1 : (k : Int) < (es.length : Int) := by omega
      have s1 : es[k].seen.length ≤ 9223372036854775806 := by omega
      have s2 : es[k].shown.length ≤ 9223372036854775806 := by omega
      clear hc hc'
      generalize es[k] = ek at *
      go_wp2_with fail
      go_region_held3 (fun w' => w'.cell? ⟨b, off + k * 5, none⟩ = some (.int .i64 ek.time) ∧ w'.cell? ⟨b, off + k * 5 + 1, none⟩ = some (.int .i64 ek.msg) ∧ w'.cell? ⟨b, off + k * 5 + 2, none⟩ = some (.int .i64 ek.part) ∧
          w'.cell? ⟨b, off + k * 5 + 3, none⟩ = some (.slice A1 ek.seen.length c1) ∧ w'.cell? ⟨b, off + k * 5 + 4, none⟩ = some (.slice A2 ek.shown.length c2) ∧
          w'.cell? ⟨b', off' + k * 5, none⟩ = some (.int .i64 ek.time) ∧ w'.cell? ⟨b', off' + k * 5 + 1, none⟩ = some (.int .i64 ek.msg) ∧ w'.cell? ⟨b', off' + k * 5 + 2, none⟩ = some (.int .i64 ek.part) ∧
          w'.cell? ⟨b', off' + k * 5 + 3, none⟩ = some (.slice A3 ek.seen.length c3) ∧ w'.cell? ⟨b', off' + k * 5 + 4, none⟩ = some (.slice A4 ek.shown.length c4))
        (first | go_keep | ((try go_split_ands); (try dsimp only); (repeat' apply And.intro) <;> (first | go_keep | ((refine (hc7 _ _ ?_).trans ?_) <;> first | assumption | omega | (simp <;> omega)))))
        (first
          | (go_at_call 52; ((with_reducible refine (eqEntry_b ek.time ek.msg ek.part ek.seen A1 c1 ek.shown A2 c2 ek.time ek.msg ek.part ek.seen A3 c3 ek.shown A4 c4 _ r1.drew r2.drew r3.drew r4.drew s1 s2 s1 s2).mono ?_); rintro e w7 ⟨rfl, hb7⟩; (have hc7 := (bcell hb7).1))))
      have hb8 := Lib.hid (hbr.drew.trans (hb7.mono hbr.size))
      clear x0 x1 x2 x3 x4 y0 y1 y2 y3 y4 r1 r2 r3 r4 hb7 hc7
      go_wp2
      go_roundw
      case rel => exact ⟨k + 1, by omega, by go_num, hb8.out⟩
      case measure => simp [intOf]; omega
    · go_wp2
      go_ret
      exact ⟨rfl, hbr⟩
/-- the first entry of a part -/
def findI (es : List Ent) (m p : Int) : Int := match es.findIdx? (fun e => e.msg == m && e.part == p) with | some k => (k : Int) | none => -1
def isE (e : Ent) (m p : Int) : Bool := e.msg == m && e.part == p
theorem findI_at {es : List Ent} {m p : Int} {k : Nat} (h : k < es.length) (h1 : isE es[k] m p = true) (h2 : ∀ j (h3 : j < es.length), j < k → isE es[j] m p = false) : findI es m p = (k : Int) := by
  have : es.findIdx? (fun e => e.msg == m && e.part == p) = some k := by
    rw [List.findIdx?_eq_some_iff_getElem]
    exact ⟨h, h1, fun j hj => by have := h2 j (by omega) hj; unfold isE at this; rw [this]; simp⟩
  simp [findI, this]
theorem findI_no {es : List Ent} {m p : Int} (h : ∀ k (_ : k < es.length), isE es[k] m p = false) : findI es m p = -1 := by
  have : es.findIdx? (fun e => e.msg == m && e.part == p) = none := by
    rw [List.findIdx?_eq_none_iff]
    intro x hx
    obtain ⟨k, hk, e⟩ := List.getElem_of_mem hx
    have := h k hk
    unfold isE at this
    rw [← e]; exact this
  simp [findI, this]
theorem findI_cases (es : List Ent) (m p : Int) : (∃ k, ∃ h : k < es.length, findI es m p = (k : Int) ∧ isE es[k] m p = true ∧ ∀ j (h3 : j < es.length), j < k → isE es[j] m p = false) ∨ (findI es m p = -1 ∧ ∀ k (_ : k < es.length), isE es[k] m p = false) := by
  cases hf : es.findIdx? (fun e => e.msg == m && e.part == p) with
  | some k =>
    left
    have hf2 := hf
    rw [List.findIdx?_eq_some_iff_getElem] at hf
    obtain ⟨h, h1, h2⟩ := hf
    exact ⟨k, h, by simp [findI, hf2], h1, fun j hj hjk => by have := h2 j hjk; unfold isE; simpa using this⟩
  | none =>
    right
    refine ⟨by simp [findI, hf], fun k hk => ?_⟩
    rw [List.findIdx?_eq_none_iff] at hf
    exact hf _ (List.getElem_mem hk)
theorem findI_range (es : List Ent) (m p : Int) : -1 ≤ findI es m p ∧ findI es m p < es.length + 1 := by
  rcases findI_cases es m p with ⟨k, h, e, _⟩ | ⟨e, _⟩ <;> rw [e] <;> omega
set_option maxHeartbeats 1000000 in
theorem lgFind_any (es : List Ent) (A : Option Addr) (c : Nat) (m p : Int) {l h : Nat} (w : World) (hr0 : RdE w l h A es) (hl : es.length ≤ 1048576) :
    Calls Try.prog 61 #[.slice A es.length c, .int .i64 m, .int .i64 p] w fun e w' => e = .returned (.int .i64 (findI es m p)) ∧ Below w.heap.size w w' := by
  have hr := hr0.std
  clear hr0
  go_enter Try.func61, Try.ntmps61
  go_wp2
  go_loopw [7, 8, 11] (fun _ _ i wr => ∃ k : Nat, k ≤ es.length ∧ i = .int .i64 k ∧ (∀ j (h : j < es.length), j < k → isE es[j] m p = false) ∧ Below w.heap.size w wr) (fun _ _ i _ => es.length - (intOf i).toNat)
  case atStart => exact ⟨0, Nat.zero_le _, rfl, fun j _ h => absurd h (by omega), Below.refl _ _⟩
  case round =>
    obtain ⟨k, hk, rfl, hall, hbr⟩ := hrel
    have hallH := Lib.hid hall
    clear hall
    by_cases hlt : k < es.length
    · obtain ⟨b, off, rfl, _, _, hc⟩ := (hr.below hbr (Nat.le_refl _)) (by omega)
      obtain ⟨A1, c1, A2, c2, x0, x1, x2, x3, x4, r1, r2⟩ := hc k hlt
      have hb2 : ∀ o : Obj, Below w.heap.size w (wr.alloc o) := fun o => hbr.alloc hbr.size o
      clear hc
      have hdef : Hid (isE es[k] m p = (es[k].msg == m && es[k].part == p)) := Lib.hid rfl
      cases e1 : (es[k].msg == m) with
      | false =>
        have hq := Lib.hid (show isE es[k] m p = false by rw [hdef.out, e1]; rfl)
        go_wp2
        go_roundw
        case rel => exact ⟨k + 1, by omega, by go_num, fun j h1 h2 => by
          by_cases hj : j = k
          · subst hj; exact hq.out
          · exact hallH.out j h1 (by omega), hb2 _⟩
        case measure => simp [intOf]; omega
      | true =>
        cases e2 : (es[k].part == p) with
        | false =>
          have hq := Lib.hid (show isE es[k] m p = false by rw [hdef.out, e1, e2]; rfl)
          go_wp2
          go_roundw
          case rel => exact ⟨k + 1, by omega, by go_num, fun j h1 h2 => by
            by_cases hj : j = k
            · subst hj; exact hq.out
            · exact hallH.out j h1 (by omega), hb2 _⟩
          case measure => simp [intOf]; omega
        | true =>
          have hq := Lib.hid (findI_at hlt (show isE es[k] m p = true by rw [hdef.out, e1, e2]; rfl) hallH.out)
          go_wp2
          go_ret
          exact ⟨by rw [hq.out]; rfl, hb2 _⟩
    · have hq := Lib.hid (findI_no (es := es) (m := m) (p := p) fun j h1 => hallH.out j h1 (by omega))
      go_wp2
      go_ret
      exact ⟨by rw [hq.out]; rfl, hbr⟩
end Go.Proofs.Yteajjbfecpffeaa
