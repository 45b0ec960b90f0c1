/-
  Contracts of slices.Grow on nil and of slices.Concat of two slices of integers. The conditions are bounds on lengths.
-/
import Derived.Test.YtjhbffndiaggmaaGreatDoorBKB2
import Derived.Test.YtjhbffndiaggmaaGreatDoorShelfG
namespace Go.Proofs.YtjhbffndiaggmaaGreatDoor
open Go.RowKit Go.ChangeShapes Go.WideShapes
set_option linter.unusedVariables false
set_option linter.unusedSimpArgs false

theorem Grow_nil (n : Nat) (w : World) (hn : n ≤ 1048576) :
    Calls Tryz.prog 150 #[.slice none 0 0, .int .i64 n] w fun e w' => ∃ v, e = .returned v ∧ Own w' w.heap.size w'.heap.size v [] ∧ Below w.heap.size w w' := by
  by_cases h0 : n = 0
  · subst h0
    exact (Any8.slices_Grow_room Tryz.laysGrow none 0 0 0 w (Nat.le_refl _) (by omega) (by omega) (Nat.le_refl _)).mono fun e w' ⟨he, hw⟩ => ⟨_, he, Own.nil, hw ▸ Below.refl _ _⟩
  · obtain ⟨i0, hi0, hz0, hz1, hz2⟩ := info_parts intInfo
    refine (Any8.slices_Grow_grow Tryz.laysGrow i0 (.int .i64 0) hi0 hz0 (by rw [hz1]; decide) none 0 0 n [] w (Nat.le_refl _) (by omega) (by rw [hz2]; omega) (by omega) (by simp) (fun _ => rfl) (fun a h => by cases h)).mono fun e w' ⟨he, hw⟩ => ?_
    subst hw
    have hge : 0 + n ≤ grownCap w (0 + n) 0 3 := grownCap_ge w _ _ _
    have hle := grownCap_le_maxLen w (0 + n) 0 3 (by unfold maxLen; omega)
    have hzc : ∀ k, (Builtin.zeroCells (Value.int .i64 0).cells k).size = k := fun k => by simp [Builtin.zeroCells, Value.cells]
    refine ⟨_, he, ⟨⟨rfl, .inr ⟨w.heap.size, _, _, rfl, Nat.le_refl _, heap_alloc_new w.drew _, by simp, hle, ?_, by simp⟩⟩, fun k hk => ?_⟩, ((Below.refl _ _).drew).alloc (Nat.le_refl _) _⟩
    · have e25 : Tryz.laysGrow_ren.t 25 = 3 := rfl
      rw [Array.size_append, Array.size_append, hzc, hzc, e25]
      simp only [List.size_toArray, List.length_nil]
      show _ = grownCap w (0 + n) 0 3 * 1
      omega
    · simp [Value.ownBlock] at hk
      simp; omega
/-- what two lists are, the first k of them -/
def cat2 (xs ys : List Int) (k : Nat) : List Int := if k = 0 then [] else if k = 1 then xs else xs ++ ys
theorem cat2_len (xs ys : List Int) (k : Nat) : (cat2 xs ys k).length ≤ xs.length + ys.length := by
  unfold cat2; split
  · simp
  · split <;> simp
set_option maxHeartbeats 2000000 in
theorem Concat_two (xs ys : List Int) (A B : Option Addr) (c d g : Nat) {l h l' h' : Nat} (w : World) (hr1 : Rd w l h A xs) (hr2 : Rd w l' h' B ys) (hc0 : w.cell? ⟨g, 0, none⟩ = some (.slice A xs.length c)) (hc1 : w.cell? ⟨g, 1, none⟩ = some (.slice B ys.length d)) (h1 : xs.length ≤ 1000) (h2 : ys.length ≤ 1000) :
    Calls Tryz.prog 90 #[.slice (some ⟨g, 0, none⟩) 2 2] w fun e w' => ∃ v, e = .returned v ∧ Own w' w.heap.size w'.heap.size v (xs ++ ys) ∧ Below w.heap.size w w' := by
  have r1 := hr1.std
  have r2 := hr2.std
  have hg : g < w.heap.size := World.block_lt_of_cell? w _ hc0
  have key : Hid (∀ k, k < 2 → ∃ Ak xk ck, w.cell? ⟨g, k, none⟩ = some (.slice Ak (xk : List Int).length ck) ∧ Rd w 0 w.heap.size Ak xk ∧ xk.length ≤ 1000 ∧ cat2 xs ys (k + 1) = cat2 xs ys k ++ xk) := Lib.hid (fun k hk => by
    rcases (show k = 0 ∨ k = 1 by omega) with rfl | rfl
    · exact ⟨A, xs, c, hc0, r1, h1, by simp [cat2]⟩
    · exact ⟨B, ys, d, hc1, r2, h2, by simp [cat2]⟩)
  clear hr1 hr2 hc0 hc1 r1 r2
  go_enter Tryz.func90, Tryz.ntmps90
  go_wp2
  go_loop [3, 5, 11] (fun n _ i => ∃ k : Nat, k ≤ 2 ∧ i = .int .i64 k ∧ n = .int .i64 ((cat2 xs ys k).length : Nat)) (fun _ _ i => 2 - (intOf i).toNat)
  case atStart => exact ⟨0, by omega, rfl, rfl⟩
  case round =>
    obtain ⟨k, hk, rfl, rfl⟩ := hrel
    have hcl := cat2_len xs ys k
    by_cases hlt : k < 2
    · obtain ⟨Ak, xk, ck, hck, _, hxl, hcat⟩ := key.out k hlt
      have hst : Hid (((cat2 xs ys (k + 1)).length : Int) = ((cat2 xs ys k).length : Int) + (xk.length : Int)) := Lib.hid (by rw [hcat]; simp)
      clear hcat
      generalize (cat2 xs ys k).length = N at *
      go_wp2
      go_round
      case rel => exact ⟨k + 1, by omega, by go_num, by rw [hst.out]⟩
      case measure => simp [intOf]; omega
    · have hNl : (cat2 xs ys k).length ≤ 2000 := by omega
      generalize (cat2 xs ys k).length = N at *
      go_wp2_with fail
      (with_reducible refine (Grow_nil N _ (by omega)).mono ?_)
      rintro e w1 ⟨v1, rfl, o1, hb1⟩
      have s1 := hb1.size
      clear hlt hk hcl
      go_wp2
      go_loopw [6, 8, 27] (fun v _ i wr => ∃ k : Nat, k ≤ 2 ∧ i = .int .i64 k ∧ Own wr w.heap.size wr.heap.size v (cat2 xs ys k) ∧ Below w.heap.size w1 wr) (fun _ _ i _ => 2 - (intOf i).toNat)
      case atStart => exact ⟨0, by omega, rfl, o1, Below.refl _ _⟩
      case round =>
        obtain ⟨j, hj, rfl, how, hbr⟩ := hrel
        have hsr := hbr.size
        have hcl := cat2_len xs ys j
        by_cases hlt : j < 2
        · obtain ⟨Ak, xk, ck, hck, hrk, hxl, hcat⟩ := key.out j hlt
          have x0 := (hbr.cell (p := ⟨g, j, none⟩) hg).trans ((hb1.cell (p := ⟨g, j, none⟩) hg).trans hck)
          have q1 := ((hrk.st hb1).below hbr (Nat.le_refl _)).mono (Nat.le_refl _) (show w.heap.size ≤ wr.heap.size by omega)
          have hst := Lib.hid hcat
          clear hck hrk hcat
          go_wp2_with (at_builtin; refine wp_append_ints rfl (.tmp 31) (.tmp 32) rfl rfl how (ys := xk) rfl q1 (by omega) (by omega) ?_; intro v2 w2 o2 g2 b2 at2)
          have ho2 := Lib.hid o2
          have hB2 := Lib.hid (hbr.trans b2)
          clear o2 g2 b2 at2 how hbr x0 q1
          go_roundw
          case rel => exact ⟨j + 1, by omega, by go_num, by rw [hst.out]; exact ho2.out, hB2.out⟩
          case measure => simp [intOf]; omega
        · have e2 : cat2 xs ys j = xs ++ ys := by
            obtain rfl : j = 2 := by omega
            simp [cat2]
          rw [e2] at how
          have ho := Lib.hid how
          have hB := Lib.hid (hb1.trans hbr)
          clear how e2
          go_wp2
          go_ret
          exact ⟨_, rfl, ho.out, hB.out⟩
end Go.Proofs.YtjhbffndiaggmaaGreatDoor
