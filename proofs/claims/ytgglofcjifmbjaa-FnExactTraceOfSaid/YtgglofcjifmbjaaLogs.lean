/-
  Contracts on slices of logs: the statements' helpers (size, copy, equality). The conditions are bounds on lengths.
-/
import Derived.Test.YtgglofcjifmbjaaMemEE
namespace Go.Proofs.Ytgglofcjifmbjaa
open Go.RowKit Go.ChangeShapes Go.WideShapes
set_option linter.unusedVariables false
set_option linter.unusedSimpArgs false

set_option maxHeartbeats 1000000 in
theorem szEntrySS_yes (es : List (List Ent)) (A : Option Addr) (c : Nat) (left : Int) {l h : Nat} (w : World) (hle : ((esszL es : Nat) : Int) ≤ left) (hr0 : RdEE w l h A es) (hl : es.length ≤ 9223372036854775807)
    (hv : ∀ y ∈ es, y.length ≤ 9223372036854775807 ∧ ∀ x ∈ y, x.seen.length ≤ 9223372036854775807 ∧ x.shown.length ≤ 9223372036854775807) (h1 : left ≤ 1048576) :
    Calls Try.prog 21 #[.slice A es.length c, .int .i64 left] w fun e w' => e = .returned (.int .i64 (left - ((esszL es : Nat) : Int))) ∧ Below w.heap.size w w' := by
  have hr := hr0.std
  clear hr0
  have hsz : Hid (esszL es = es.length + ppsum es es.length) := Lib.hid (essz_eq es)
  have hlen : (es.length : Int) ≤ left := by have := hsz.out; omega
  have hps : ((ppsum es es.length : Nat) : Int) ≤ left - (es.length : Int) := by have := hsz.out; omega
  have ht0 : ¬ left - (es.length : Int) < 0 := by omega
  have hfin : Hid (left - ((esszL es : Nat) : Int) = left - (es.length : Int) - ((ppsum es es.length : Nat) : Int)) := by show _ = _; rw [hsz.out]; omega
  clear hle
  go_enter Try.func21, Try.ntmps21
  go_wp2
  go_loopw [1, 5] (fun q i wr => ∃ k : Nat, k ≤ es.length ∧ i = .int .i64 k ∧ q = .int .i64 (left - (es.length : Int) - ((ppsum es k : Nat) : Int)) ∧ Below w.heap.size w wr) (fun _ i _ => es.length - (intOf i).toNat)
  case atStart => exact ⟨0, Nat.zero_le _, rfl, by rw [ppsum_zero]; simp, Below.refl _ _⟩
  case round =>
    obtain ⟨k, hk, rfl, rfl, hbr⟩ := hrel
    have hpk := ppsum_le es k
    by_cases hlt : k < es.length
    · obtain ⟨b, off, rfl, _, _, hc⟩ := (hr.below hbr (Nat.le_refl _)) (by omega)
      obtain ⟨A1, c1, x0, r1, _⟩ := hc k hlt
      have hpk1 := ppsum_le es (k + 1)
      have hps1 := ppsum_succ es k hlt
      have hbd := hv es[k] (List.getElem_mem hlt)
      have hq : ((eszL es[k] : Nat) : Int) ≤ left - (es.length : Int) - ((ppsum es k : Nat) : Int) := by omega
      have hge : ¬ left - (es.length : Int) - ((ppsum es k : Nat) : Int) - ((eszL es[k] : Nat) : Int) < 0 := by omega
      have hgoal : Hid (left - (es.length : Int) - ((ppsum es (k + 1) : Nat) : Int) = left - (es.length : Int) - ((ppsum es k : Nat) : Int) - ((eszL es[k] : Nat) : Int)) := by show _ = _; rw [hps1]; omega
      have hle1 : left - (es.length : Int) - ((ppsum es k : Nat) : Int) ≤ 1048576 := by omega
      clear hc hps1 hpk1 hv
      go_wp2_with fail
      refine (szEntryS_yes es[k] A1 c1 _ _ hq r1 hbd.1 hbd.2 hle1).mono ?_
      rintro e w2 ⟨rfl, hb2⟩
      have hb3 := Lib.hid (hbr.trans (hb2.mono hbr.size))
      clear hb2 x0 r1
      go_wp2
      go_roundw
      case rel => exact ⟨k + 1, by omega, by go_num, by rw [hgoal.out], hb3.out⟩
      case measure => simp [intOf]; omega
    · obtain rfl : k = es.length := by omega
      go_wp2
      go_ret
      exact ⟨by rw [hfin.out]; rfl, hbr⟩

set_option maxHeartbeats 1000000 in
theorem szEntrySS_no (es : List (List Ent)) (A : Option Addr) (c : Nat) (left : Int) {l h : Nat} (w : World) (hle : left < ((esszL es : Nat) : Int)) (hr0 : RdEE w l h A es) (hl : es.length ≤ 9223372036854775807)
    (hv : ∀ y ∈ es, y.length ≤ 9223372036854775807 ∧ ∀ x ∈ y, x.seen.length ≤ 9223372036854775807 ∧ x.shown.length ≤ 9223372036854775807) (h1 : 0 ≤ left ∧ left ≤ 1048576) :
    Calls Try.prog 21 #[.slice A es.length c, .int .i64 left] w fun e w' => e = .returned (.int .i64 (-1)) ∧ Below w.heap.size w w' := by
  have hr := hr0.std
  clear hr0
  have hsz : Hid (esszL es = es.length + ppsum es es.length) := Lib.hid (essz_eq es)
  by_cases ht0 : left - (es.length : Int) < 0
  · go_enter Try.func21, Try.ntmps21
    go_wp2
    go_ret
    exact ⟨rfl, Below.refl _ _⟩
  · have hps : left - (es.length : Int) < ((ppsum es es.length : Nat) : Int) := by have := hsz.out; omega
    clear hle
    go_enter Try.func21, Try.ntmps21
    go_wp2
    go_loopw [1, 5] (fun q i wr => ∃ k : Nat, k ≤ es.length ∧ i = .int .i64 k ∧ q = .int .i64 (left - (es.length : Int) - ((ppsum es k : Nat) : Int)) ∧ ((ppsum es k : Nat) : Int) ≤ left - (es.length : Int) ∧ Below w.heap.size w wr) (fun _ i _ => es.length - (intOf i).toNat)
    case atStart => exact ⟨0, Nat.zero_le _, rfl, by rw [ppsum_zero]; simp, by rw [ppsum_zero]; simp at ht0 ⊢; omega, Below.refl _ _⟩
    case round =>
      obtain ⟨k, hk, rfl, rfl, hpk, hbr⟩ := hrel
      by_cases hlt : k < es.length
      · obtain ⟨b, off, rfl, _, _, hc⟩ := (hr.below hbr (Nat.le_refl _)) (by omega)
        obtain ⟨A1, c1, x0, r1, _⟩ := hc k hlt
        have hps1 := ppsum_succ es k hlt
        have hbd := hv es[k] (List.getElem_mem hlt)
        have hle1 : left - (es.length : Int) - ((ppsum es k : Nat) : Int) ≤ 1048576 := by omega
        have hle0 : 0 ≤ left - (es.length : Int) - ((ppsum es k : Nat) : Int) := by omega
        by_cases hq : ((eszL es[k] : Nat) : Int) ≤ left - (es.length : Int) - ((ppsum es k : Nat) : Int)
        · have hge : ¬ left - (es.length : Int) - ((ppsum es k : Nat) : Int) - ((eszL es[k] : Nat) : Int) < 0 := by omega
          have hgoal : Hid (left - (es.length : Int) - ((ppsum es (k + 1) : Nat) : Int) = left - (es.length : Int) - ((ppsum es k : Nat) : Int) - ((eszL es[k] : Nat) : Int)) := by show _ = _; rw [hps1]; omega
          have hpk2 : ((ppsum es (k + 1) : Nat) : Int) ≤ left - (es.length : Int) := by rw [hps1]; omega
          clear hc hps1 hv
          go_wp2_with fail
          refine (szEntryS_yes es[k] A1 c1 _ _ hq r1 hbd.1 hbd.2 hle1).mono ?_
          rintro e w2 ⟨rfl, hb2⟩
          have hb3 := Lib.hid (hbr.trans (hb2.mono hbr.size))
          clear hb2 x0 r1
          go_wp2
          go_roundw
          case rel => exact ⟨k + 1, by omega, by go_num, by rw [hgoal.out], hpk2, hb3.out⟩
          case measure => simp [intOf]; omega
        · have hq' : left - (es.length : Int) - ((ppsum es k : Nat) : Int) < ((eszL es[k] : Nat) : Int) := by omega
          clear hc hps1 hv hq
          go_wp2_with fail
          refine (szEntryS_no es[k] A1 c1 _ _ hq' r1 hbd.1 hbd.2 ⟨hle0, hle1⟩).mono ?_
          rintro e w2 ⟨rfl, hb2⟩
          have hb3 := Lib.hid (hbr.trans (hb2.mono hbr.size))
          clear hb2 x0 r1
          go_wp2
          go_ret
          exact ⟨rfl, hb3.out⟩
      · exfalso
        obtain rfl : k = es.length := by omega
        omega
set_option maxHeartbeats 2000000 in
theorem toEntrySS_any (es : List (List Ent)) (A : Option Addr) (c : Nat) {l h : Nat} (w : World) (hr0 : RdEE w l h A es) (hl : esszL es ≤ 1048576) :
    Calls Try.prog 23 #[.slice A es.length c] w fun e w' => ∃ A' c', e = .returned (.slice A' es.length c') ∧ OwnEE w' w.heap.size w'.heap.size (.slice A' es.length c') es ∧ Below w.heap.size w w' := by
  have hr := hr0.std
  clear hr0
  have hel := essz_len es
  go_enter Try.func23, Try.ntmps23
  go_wp2_with (at_make; refine wp_make_logs rfl _ _ rfl es rfl rfl (by omega) ?_; intro w1 hown1 hb1 hs1)
  go_loopw [4] (fun i wr => ∃ k : Nat, k ≤ es.length ∧ i = .int .i64 k ∧ MadeEE wr w.heap.size wr.heap.size w.heap.size es.length es k ∧ Below w.heap.size w wr ∧ w.heap.size + 1 ≤ wr.heap.size) (fun i _ => es.length - (intOf i).toNat)
  case atStart => exact ⟨0, Nat.zero_le _, rfl, hown1, hb1, by omega⟩
  case round =>
    clear hown1 hb1 hs1
    obtain ⟨k, hk, rfl, hown, hbr, hsr⟩ := hrel
    by_cases hlt : k < es.length
    · obtain ⟨b, off, rfl, _, _, hc⟩ := (hr.below hbr (Nat.le_refl _)) (by omega)
      obtain ⟨A1, c1, x0, r1, _⟩ := hc k hlt
      have hat := essz_at es k hlt
      clear hc
      go_wp2_with fail
      refine (toEntryS_any es[k] A1 c1 _ r1 (by omega)).mono ?_
      rintro e w2 ⟨A3, c3, rfl, o3, hb2⟩
      have ho2 := hown.st hb2 hk
      have hst := ho2.stored hlt rfl o3 hb2.size
      have hstH := Lib.hid hst
      have hsz2 := hb2.size
      have hB2 := hbr.trans (hb2.mono hbr.size)
      have hB3 := Lib.hid (hB2.setCell (p := ⟨w.heap.size, k, none⟩) (Nat.le_refl _) (.slice A3 es[k].length c3))
      obtain ⟨_, ⟨y0, z0⟩, f0⟩ := ho2.at_ k hlt hk (by omega)
      clear hst ho2 hown hB2 hb2 hbr o3 x0 r1 hat
      go_wp2
      go_roundw
      case rel => exact ⟨k + 1, by omega, by go_num, by simp only [size_setCell]; exact hstH.out, hB3.out, by simp only [size_setCell]; omega⟩
      case measure => simp [intOf]; omega
    · obtain rfl : k = es.length := by omega
      have ho : Hid (OwnEE wr w.heap.size wr.heap.size (.slice (some ⟨w.heap.size, 0, none⟩) es.length es.length) es) := Lib.hid ⟨_, _, rfl, Nat.le_refl _, by simp only [maxLen]; omega, hown⟩
      clear hown
      go_wp2
      go_ret
      exact ⟨_, _, rfl, ho.out, hbr⟩
set_option maxHeartbeats 4000000 in
theorem eqEntrySS_b (es : List (List Ent)) (A : Option Addr) (c : Nat) (es2 : List (List Ent)) (A' : Option Addr) (c' : Nat) {l h l' h' : Nat} (w : World) (hx0 : RdEE w l h A es) (hy0 : RdEE w l' h' A' es2) (hl : esszL es ≤ 1048576) (hl2 : esszL es2 ≤ 1048576) (he : es = es2 := by rfl) :
    Calls Try.prog 26 #[.slice A es.length c, .slice A' es2.length c'] w fun e w' => e = .returned (.bool true) ∧ Below w.heap.size w w' := by
  subst he
  have hx := hx0.std
  have hy := hy0.std
  clear hx0 hy0
  have hel := essz_len es
  go_enter Try.func26, Try.ntmps26
  go_wp2
  go_loopw [5] (fun i wr => ∃ k : Nat, k ≤ es.length ∧ i = .int .i64 k ∧ Below w.heap.size w wr) (fun i _ => es.length - (intOf i).toNat)
  case atStart => exact ⟨0, Nat.zero_le _, rfl, Below.refl _ _⟩
  case round =>
    obtain ⟨k, hk, rfl, hbr⟩ := hrel
    by_cases hlt : k < es.length
    · obtain ⟨b, off, rfl, _, _, hc⟩ := (hx.below hbr (Nat.le_refl _)) (by omega)
      obtain ⟨A1, c1, x0, r1, _⟩ := hc k hlt
      obtain ⟨b', off', rfl, _, _, hc'⟩ := (hy.below hbr (Nat.le_refl _)) (by omega)
      obtain ⟨A3, c3, y0, r3, _⟩ := hc' k hlt
      have hat := essz_at es k hlt
      have hszr := hbr.size
      have i0 : (0 : Int) ≤ (k : Int) := by omega
      have i1 : (k : Int) < (es.length : Int) := by omega
      have s1 : eszL es[k] ≤ 1048576 := by omega
      clear hc hc'
      generalize es[k] = ek at *
      have bb1 : b < wr.heap.size := by omega
      have bb2 : b' < wr.heap.size := by omega
      go_wp2_with fail
      go_region_held3 (fun w' => w'.cell? ⟨b, off + k, none⟩ = some (.slice A1 ek.length c1) ∧ w'.cell? ⟨b', off' + k, none⟩ = some (.slice A3 ek.length c3))
        (first | go_keep | ((try go_split_ands); (try dsimp only); (repeat' apply And.intro) <;> (first | go_keep | ((refine (hc7 _ _ ?_).trans ?_) <;> first | assumption | omega | (simp <;> omega)))))
        (first
          | (go_at_call 17; ((with_reducible refine (eqEntryS_b ek A1 c1 ek A3 c3 _ r1.drew r3.drew s1 s1).mono ?_); rintro e w7 ⟨rfl, hb7⟩; (have hc7 := (bcell hb7).1))))
      have hb8 := Lib.hid (hbr.drew.trans (hb7.mono hbr.size))
      clear x0 y0 r1 r3 hb7 hc7
      go_wp2
      go_roundw
      case rel => exact ⟨k + 1, by omega, by go_num, hb8.out⟩
      case measure => simp [intOf]; omega
    · go_wp2
      go_ret
      exact ⟨rfl, hbr⟩
end Go.Proofs.Ytgglofcjifmbjaa
