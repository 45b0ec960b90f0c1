/-
  The library's stable sort at this program: entries in a slice that a call has made are put in order of time, those of equal times as they stood. The conditions are bounds on lengths.
-/
import Derived.Test.YteajjbfecpffeaaStabC
import Derived.Test.YteajjbfecpffeaaShelfJ
import Derived.Test.YteajjbfecpffeaaKeep
import Derived.Test.YteajjbfecpffeaaPureJ
namespace Go.Proofs.Yteajjbfecpffeaa
open Go.RowKit Go.ChangeShapes Go.WideShapes Go.Sort
set_option linter.unusedVariables false
set_option linter.unusedSimpArgs false
set_option linter.unusedSectionVars false

/-! ### the closure's order -/
def cmpI (a b : Int) : Int := if a < b then -1 else if b < a then 1 else 0
def cfT (x y : RowT) : Int := cmpI x.t y.t
theorem cfT_lt (x y : RowT) : ltOf cfT x y = decide (x.t < y.t) := by
  unfold ltOf cfT cmpI
  by_cases h : x.t < y.t
  · simp [h]
  · by_cases h2 : y.t < x.t
    · simp [h, h2]
    · simp [h, h2]
theorem cfT_swo : SWO (ltOf cfT) := by
  refine ⟨fun x => ?_, fun x y z h1 h2 => ?_, fun x y z h1 h2 => ?_⟩
  · simp [cfT_lt]
  · simp [cfT_lt] at *; omega
  · simp [cfT_lt] at *; omega
theorem isNaN_v (x : Int) (w : World) : Calls Try.prog 96 #[.int .i64 x] w fun e w' => e = .returned (.bool false) ∧ w = w' := by
  go_enter Try.func96, Try.ntmps96
  go_wp2_with fail
  go_ret
  exact ⟨by simp, rfl⟩
theorem compare_v (x y : Int) (w : World) : Calls Try.prog 50 #[.int .i64 x, .int .i64 y] w fun e w' => e = .returned (.int .i64 (cmpI x y)) ∧ w = w' := by
  have key : ∀ z, cmpI x y = z → Calls Try.prog 50 #[.int .i64 x, .int .i64 y] w fun e w' => e = .returned (.int .i64 z) ∧ w = w' := by
    intro z hz
    have hzH := Lib.hid hz
    clear hz
    by_cases h1 : x < y
    · go_enter Try.func50, Try.ntmps50
      go_wp2_with fail
      (with_reducible refine (isNaN_v x _).mono ?_)
      rintro e w1 ⟨rfl, rfl⟩
      go_wp2_with fail
      (with_reducible refine (isNaN_v y _).mono ?_)
      rintro e w1 ⟨rfl, rfl⟩
      go_wp2_with fail
      go_ret
      exact ⟨by rw [← hzH.out]; simp [cmpI, h1], rfl⟩
    · by_cases h2 : y < x
      · go_enter Try.func50, Try.ntmps50
        go_wp2_with fail
        (with_reducible refine (isNaN_v x _).mono ?_)
        rintro e w1 ⟨rfl, rfl⟩
        go_wp2_with fail
        (with_reducible refine (isNaN_v y _).mono ?_)
        rintro e w1 ⟨rfl, rfl⟩
        go_wp2_with fail
        go_ret
        exact ⟨by rw [← hzH.out]; simp [cmpI, h1, h2], rfl⟩
      · go_enter Try.func50, Try.ntmps50
        go_wp2_with fail
        (with_reducible refine (isNaN_v x _).mono ?_)
        rintro e w1 ⟨rfl, rfl⟩
        go_wp2_with fail
        (with_reducible refine (isNaN_v y _).mono ?_)
        rintro e w1 ⟨rfl, rfl⟩
        go_wp2_with fail
        go_ret
        exact ⟨by rw [← hzH.out]; unfold cmpI; rw [if_neg (by omega), if_neg (by omega)]; rfl, rfl⟩
  exact key _ rfl
/-- JoinLogs's closure, in whatever world: two blocks are laid -/
theorem joinClo_any (x y : RowT) (W : World) : Calls Try.prog 49 #[.agg (encT x).toArray, .agg (encT y).toArray] W fun e w' => e = .returned (.int .i64 (cfT x y)) ∧ ∃ q os', w' = grow (W.drewN q) os' := by
  have hcon := fun W' => compare_v x.t y.t W'
  have hr : ∃ r, cfT x y = r := ⟨_, rfl⟩
  obtain ⟨r, hr⟩ := hr
  have hr2 : cmpI x.t y.t = r := hr
  rw [hr]
  rw [hr2] at hcon
  clear hr hr2
  have ex : (encT x).toArray = #[.int .i64 x.t, .int .i64 x.m, .int .i64 x.p, .slice x.A1 x.n1 x.c1, .slice x.A2 x.n2 x.c2] := rfl
  have ey : (encT y).toArray = #[.int .i64 y.t, .int .i64 y.m, .int .i64 y.p, .slice y.A1 y.n1 y.c1, .slice y.A2 y.n2 y.c2] := rfl
  rw [ex, ey]
  clear ex ey
  go_enter Try.func49, Try.ntmps49
  go_wp2_with fail
  (with_reducible refine (hcon _).mono ?_)
  rintro e w1 ⟨rfl, rfl⟩
  go_wp2_with fail
  go_ret
  exact ⟨rfl, 0, _, by rw [alloc_eq_grow, alloc_eq_grow, grow_grow]; rfl⟩
theorem joinClo_lays (blk off size : Nat) (w : World) : CmpLays Try.prog 49 #[] encT 5 cfT blk off size w := fun _ _ _ _ x y => by simpa using joinClo_any x y _
/-- the stable sort, over a row of entries -/
theorem sortStable_row (G c sz : Nat) (d0 : Array RowT) (w : World) (hH : HoldsK encT 5 w G 0 d0) (hG : G < w.heap.size) (hz : sz = d0.size) (hsz : d0.size ≤ 1000000000) (htag : ∀ i, i < sz → d0[i]!.tag = i) :
    Calls Try.prog 48 #[.slice (some ⟨G, 0, none⟩) sz c, .func (.func 49) #[] #[]] w fun e w' => e = .returned (.tuple #[]) ∧ ∃ d', PermIn 0 sz d0 d' ∧ Ord (ltOf cfT) RowT.tag 0 sz d' ∧ SWK encT 5 w G 0 d' w' := by
  have R : RowK encT 5 w G 0 d0 := ⟨encT_len, encT_one, hH, hG⟩
  have eg : ∀ args w, (callFunc 49 args).run Try.prog w = .ok (.enter 49 args) w := enters_of Try.func49 (by kernel_rfl) rfl
  refine sortStable_P sortP encT cfT cfT_swo 49 G 0 c sz d0 w w R hz (by omega) htag (SWK.start hH) Try.func48 Try.func95 Try.func126 Try.func127 ?_ ?_
  · intro a b dk W hab hb hs S
    have h := AnyQ.insertionSortCmpFunc Try.laysIns 5 Try.isAgg49 Try.sizeOf49 encT encT_len encT_one cfT 49 #[] G 0 c a b dk W eg (joinClo_lays _ _ _ _) (S.holds hG hH hs) (S.lt hG) hab hb (by omega)
    rw [show dk.size = sz by omega] at h
    refine h.mono ?_
    rintro e w' ⟨he, n, os, hw⟩
    have hp := insertionSort_holds (lt := ltOf cfT) cfT_swo dk a b hab hb
    exact ⟨he, by rw [hw]; exact S.on hG n _ os hp.1.1⟩
  · intro a m b mz dk W hmz h1 h2 h3 h4 S o1 o2 o3
    subst hmz
    exact symMerge_P sortP Try.func155 Try.func148 Try.func127 encT cfT cfT_swo 49 eg G 0 c sz d0 w (joinClo_lays _ _ _ _) R hz (by omega) (b - a) a m b dk W (Nat.le_refl _) h1 h2 h3 h4 S o1 o2 o3
end Go.Proofs.Yteajjbfecpffeaa
