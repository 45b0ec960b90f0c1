/-
  Contracts of UsePage, in the reference and in the program. The conditions are bounds on lengths.
-/
import Derived.Test.YtjhbffndiaggmaaGreatDoorZLSort
import Derived.Test.YtjhbffndiaggmaaGreatDoorBL19
import Derived.Deep.RegionHeld3
namespace Go.Proofs.YtjhbffndiaggmaaGreatDoor
open Go.RowKit Go.ChangeShapes Go.WideShapes
set_option linter.unusedVariables false
set_option linter.unusedSimpArgs false

/-- a goal at which a walk rests -/
def Rest (p : Prop) : Prop := p
theorem Rest.of {p : Prop} (h : Rest p) : p := h
theorem Rest.intro {p : Prop} (h : p) : Rest p := h
theorem Rd.store {w : World} {lo hi : Nat} {A : Option Addr} {zs : List Int} (h : Rd w lo hi A zs) {p : Addr} (hp : hi ≤ p.block ∨ p.block < lo) (u : Value) : Rd (w.setCell p u) lo hi A zs :=
  h.keep fun b o h1 h2 _ => World.cell?_setCell_other w p _ u (fun e => by subst e; simp at hp; omega)
theorem Rd.take {w : World} {lo hi b off : Nat} {zs : List Int} (h : Rd w lo hi (some ⟨b, off, none⟩) zs) (k : Nat) : Rd w lo hi (some ⟨b, off, none⟩) (zs.take k) := fun hp => by
  rw [List.length_take] at hp
  obtain ⟨b', off', e, a1, a2, hc⟩ := h (by omega)
  obtain rfl : b = b' := congrArg Addr.block (Option.some.inj e)
  obtain rfl : off = off' := congrArg Addr.off (Option.some.inj e)
  refine ⟨_, _, rfl, a1, a2, fun j hj => ?_⟩
  rw [List.length_take] at hj
  rw [List.getElem_take]
  exact hc j (by omega)
theorem Rd.drop {w : World} {lo hi b off : Nat} {zs : List Int} (h : Rd w lo hi (some ⟨b, off, none⟩) zs) (k : Nat) : Rd w lo hi (some ⟨b, off + k, none⟩) (zs.drop k) := fun hp => by
  rw [List.length_drop] at hp
  obtain ⟨b', off', e, a1, a2, hc⟩ := h (by omega)
  obtain rfl : b = b' := congrArg Addr.block (Option.some.inj e)
  obtain rfl : off = off' := congrArg Addr.off (Option.some.inj e)
  refine ⟨_, _, rfl, a1, a2, fun j hj => ?_⟩
  rw [List.length_drop] at hj
  rw [List.getElem_drop, Nat.add_assoc]
  exact hc (k + j) (by omega)

set_option maxHeartbeats 2000000 in
theorem l1Put_any (zs : List Int) (A : Option Addr) (c : Nat) (n : Int) {l h : Nat} (w : World) (hr0 : Rd w l h A zs) (hl : zs.length ≤ 1048576) (hcap : zs.length ≤ c) (hc2 : c ≤ 9223372036854775807) (hA : (A = none ∧ c = 0) ∨ ∃ b off, A = some ⟨b, off, none⟩) :
    Calls Tryz.prog 95 #[.slice A zs.length c, .int .i64 n] w fun e w' => ∃ A' c' l' h', e = .returned (.slice A' (putL zs n).length c') ∧ Rd w' l' h' A' (putL zs n) ∧ ((l' = l ∧ h' = h) ∨ l' = w.heap.size) ∧ (putL zs n).length ≤ c' ∧ c' ≤ 9223372036854775807 ∧ Below w.heap.size w w' := by
  have hr := hr0.std
  have hr0H := Lib.hid hr0
  clear hr0
  go_enter Tryz.func95, Tryz.ntmps95
  go_wp2
  go_loop [5] (fun i => ∃ k : Nat, k ≤ zs.length ∧ i = .int .i64 k ∧ ∀ j (h : j < zs.length), j < k → zs[j] < n) (fun i => zs.length - (intOf i).toNat)
  case atStart => exact ⟨0, Nat.zero_le _, rfl, fun j _ h => absurd h (by omega)⟩
  case round =>
    obtain ⟨k, hk, rfl, hall⟩ := hrel
    have hallH := Lib.hid hall
    clear hall
    by_cases hlt : k < zs.length
    · have hrr := hr
      obtain ⟨b, off, rfl, _, _, hc⟩ := hr (by omega)
      have x0 := hc k hlt
      clear hc
      by_cases hz : zs[k] < n
      · go_wp2
        go_round
        case rel => exact ⟨k + 1, by omega, by go_num, fun j h hj => by
          by_cases e : j = k
          · subst e; exact hz
          · exact hallH.out j h (by omega)⟩
        case measure => simp [intOf]; omega
      · have hput := putL_at hk hallH.out (fun _ => hz)
        by_cases he : zs[k] = n
        · have hq : Hid (putL zs n = zs) := Lib.hid (by rw [hput, if_pos (by rw [List.getElem?_eq_getElem hlt, he])])
          have t0 : (zs[k] == n) = true := by simp [he]
          clear hput he
          go_wp2
          go_ret
          exact ⟨some ⟨b, off, none⟩, c, by rw [hq.out]; rfl, l, h, by rw [hq.out]; exact hr0H.out, .inl ⟨rfl, rfl⟩, by rw [hq.out]; exact hcap, hc2, Below.refl _ _⟩
        · have hq : Hid (putL zs n = zs.take k ++ [n] ++ zs.drop k) := Lib.hid (by rw [hput, if_neg (by rw [List.getElem?_eq_getElem hlt]; intro h; exact he (Option.some.inj h))]; simp)
          have t0 : (zs[k] == n) = false := by simp [he]
          have htl : Hid ((zs.take k).length = k) := Lib.hid (by rw [List.length_take, Nat.min_eq_left hk])
          have hdl : Hid ((zs.drop k).length = zs.length - k) := Lib.hid (by rw [List.length_drop])
          have hm := Own.made (lo := w.heap.size) (hi := w.heap.size + 1) w [] #[] rfl (by simp) (Nat.le_refl _) (by omega)
          have hr1 := (((hr.take k).alloc (.cells #[] 3)).mono (Nat.le_refl _) (show w.heap.size ≤ (w.alloc (.cells #[] 3)).heap.size by simp))
          have hzH := Lib.hid hz
          clear hput he hz hrr
          go_wp2_with (at_builtin; refine wp_append_ints rfl (.tmp 34) (.tmp 37) rfl rfl hm (show _ = Value.slice (some ⟨b, off, none⟩) (zs.take k).length _ from by rw [htl.out]; rfl) hr1 (by rw [htl.out]; simp; omega) (by simp) ?_; intro v1 w1 o1 g1 b1 at1; refine Rest.of ?_)
          refine Rest.intro ?_
          clear x0 t0
          have s1 := b1.size
          have s1' : w.heap.size + 1 ≤ w1.heap.size := by simpa using s1
          have hB1 : Below w.heap.size w w1 := ((Below.refl _ _).alloc (Nat.le_refl _) _).trans b1
          go_wp2_with (at_builtin; refine wp_append_ints rfl (.tmp 39) (.tmp 41) rfl rfl (o1.alloc _) (ys := [n]) rfl ((Rd.one w1 _ _ _ rfl).mono (Nat.zero_le _) (by simp)) (by simp; omega) (by simp; omega) ?_; intro v2 w2 o2 g2 b2 at2; refine Rest.of ?_)
          refine Rest.intro ?_
          have s2 : w1.heap.size + 1 ≤ w2.heap.size := by have := b2.size; simpa using this
          have hB2 : Below w.heap.size w w2 := (hB1.alloc (by omega) _).trans b2
          clear o1 g1 b1 at1 g2 b2 at2 hm hr1
          have hr2 := ((hr.below hB2 (Nat.le_refl _)).drop k).mono (Nat.le_refl _) (show w.heap.size ≤ w2.heap.size by omega)
          go_wp2_with (at_builtin; refine wp_append_ints rfl (.tmp 43) (.tmp 46) rfl rfl o2 (show _ = Value.slice (some ⟨b, off + k, none⟩) (zs.drop k).length _ from by rw [hdl.out]; rfl) hr2 (by simp; omega) (by omega) ?_; intro v3 w3 o3 g3 b3 at3; refine Rest.of ?_)
          refine Rest.intro ?_
          obtain ⟨A3, c3, rfl, q3, hc3⟩ := o3.rd
          have h3 := Lib.hid o3
          have hB3 := Lib.hid (hB2.trans b3)
          have l3 := Lib.hid (o3.len).2
          clear o3 g3 b3 at3 o2 hB2 hB1
          go_wp2
          go_ret
          exact ⟨_, _, _, _, by rw [hq.out]; rfl, by rw [hq.out]; exact h3.out.rd', .inr rfl, by rw [hq.out]; exact l3.out, by simp only [maxLen] at hc3; exact hc3, hB3.out⟩
    · obtain rfl : k = zs.length := by omega
      have hput := putL_at hk hallH.out (fun h => absurd h (by omega))
      have hq : Hid (putL zs n = zs ++ [n]) := Lib.hid (by rw [hput, if_neg (by simp)]; simp)
      have htl : Hid (zs.length = zs.length) := Lib.hid rfl
      have hm := Own.made (lo := w.heap.size) (hi := w.heap.size + 1) w [] #[] rfl (by simp) (Nat.le_refl _) (by omega)
      have hr1 := ((hr.alloc (.cells #[] 3)).mono (Nat.le_refl _) (show w.heap.size ≤ (w.alloc (.cells #[] 3)).heap.size by simp))
      clear hput
      rcases hA with ⟨rfl, rfl⟩ | ⟨b, off, rfl⟩
      · have h00 : zs.length = 0 := by omega
        obtain rfl := List.eq_nil_of_length_eq_zero h00
        go_wp2_with (at_builtin; refine wp_append_ints rfl (.tmp 34) (.tmp 37) rfl rfl hm rfl hr1 (by simp) (by simp) ?_; intro v1 w1 o1 g1 b1 at1; refine Rest.of ?_)
        refine Rest.intro ?_
        have s1 := b1.size
        have s1' : w.heap.size + 1 ≤ w1.heap.size := by simpa using s1
        have hB1 : Below w.heap.size w w1 := ((Below.refl _ _).alloc (Nat.le_refl _) _).trans b1
        go_wp2_with (at_builtin; refine wp_append_ints rfl (.tmp 39) (.tmp 41) rfl rfl (o1.alloc _) (ys := [n]) rfl ((Rd.one w1 _ _ _ rfl).mono (Nat.zero_le _) (by simp)) (by simp) (by simp; omega) ?_; intro v2 w2 o2 g2 b2 at2; refine Rest.of ?_)
        refine Rest.intro ?_
        have s2 : w1.heap.size + 1 ≤ w2.heap.size := by have := b2.size; simpa using this
        have hB2 : Below w.heap.size w w2 := (hB1.alloc (by omega) _).trans b2
        clear o1 g1 b1 at1 g2 b2 at2 hm hr1
        go_wp2_with (at_builtin; refine wp_append_ints rfl (.tmp 43) (.tmp 46) rfl rfl o2 (ys := []) rfl Rd.nil (by simp) (by omega) ?_; intro v3 w3 o3 g3 b3 at3; refine Rest.of ?_)
        refine Rest.intro ?_
        rw [List.append_nil] at o3
        obtain ⟨A3, c3, rfl, q3, hc3⟩ := o3.rd
        have h3 := Lib.hid o3
        have hB3 := Lib.hid (hB2.trans b3)
        have l3 := Lib.hid (o3.len).2
        clear o3 g3 b3 at3 o2 hB2 hB1
        go_wp2
        go_ret
        exact ⟨_, _, _, _, by rw [hq.out]; rfl, by rw [hq.out]; exact h3.out.rd', .inr rfl, by rw [hq.out]; exact l3.out, by simp only [maxLen] at hc3; exact hc3, hB3.out⟩
      · go_wp2_with (at_builtin; refine wp_append_ints rfl (.tmp 34) (.tmp 37) rfl rfl hm rfl hr1 (by simp; omega) (by simp) ?_; intro v1 w1 o1 g1 b1 at1; refine Rest.of ?_)
        refine Rest.intro ?_
        have s1 := b1.size
        have s1' : w.heap.size + 1 ≤ w1.heap.size := by simpa using s1
        have hB1 : Below w.heap.size w w1 := ((Below.refl _ _).alloc (Nat.le_refl _) _).trans b1
        go_wp2_with (at_builtin; refine wp_append_ints rfl (.tmp 39) (.tmp 41) rfl rfl (o1.alloc _) (ys := [n]) rfl ((Rd.one w1 _ _ _ rfl).mono (Nat.zero_le _) (by simp)) (by simp; omega) (by simp; omega) ?_; intro v2 w2 o2 g2 b2 at2; refine Rest.of ?_)
        refine Rest.intro ?_
        have s2 : w1.heap.size + 1 ≤ w2.heap.size := by have := b2.size; simpa using this
        have hB2 : Below w.heap.size w w2 := (hB1.alloc (by omega) _).trans b2
        clear o1 g1 b1 at1 g2 b2 at2 hm hr1
        go_wp2_with (at_builtin; refine wp_append_ints rfl (.tmp 43) (.tmp 46) rfl rfl o2 (ys := []) rfl Rd.nil (by simp; omega) (by omega) ?_; intro v3 w3 o3 g3 b3 at3; refine Rest.of ?_)
        all_goals
          refine Rest.intro ?_
          rw [List.append_nil] at o3
          obtain ⟨A3, c3, rfl, q3, hc3⟩ := o3.rd
          have h3 := Lib.hid o3
          have hB3 := Lib.hid (hB2.trans b3)
          have l3 := Lib.hid (o3.len).2
          clear o3 g3 b3 at3 o2 hB2 hB1
          go_wp2
          go_ret
          exact ⟨_, _, _, _, by rw [hq.out]; rfl, by rw [hq.out]; exact h3.out.rd', .inr rfl, by rw [hq.out]; exact l3.out, by simp only [maxLen] at hc3; exact hc3, hB3.out⟩

set_option maxHeartbeats 2000000 in
theorem kyUse_any (k1 p1 : Int) (z1 : List Int) (A1 : Option Addr) (c1 : Nat) (page : Int) {l h : Nat} (w : World) (hr0 : Rd w l h A1 z1) (hh : h ≤ w.heap.size) (hl : z1.length ≤ 1048576) (hcap : z1.length ≤ c1) (hc2 : c1 ≤ 9223372036854775807) (hA : (A1 = none ∧ c1 = 0) ∨ ∃ b off, A1 = some ⟨b, off, none⟩) :
    Calls Tryz.prog 78 #[.agg #[.int .i64 k1, .int .i64 p1, .slice A1 z1.length c1], .int .i64 page] w fun e w' => ∃ A' c' l' h', e = .returned (.agg #[.int .i64 k1, .int .i64 p1, .slice A' (putL z1 page).length c']) ∧ Rd w' l' h' A' (putL z1 page) ∧ ((l' = l ∧ h' = h) ∨ w.heap.size + 2 ≤ l') ∧ (putL z1 page).length ≤ c' ∧ c' ≤ 9223372036854775807 ∧ Below w.heap.size w w' := by
  have hr := hr0
  clear hr0
  obtain ⟨W, hW⟩ : ∃ W, W = (w.alloc (.cells #[.int .i64 k1, .int .i64 p1, .slice A1 z1.length c1] 26)).alloc (.cells #[.int .i64 0, .int .i64 0, .slice none 0 0] 26) := ⟨_, rfl⟩
  have hs2 : W.heap.size = w.heap.size + 2 := by rw [hW]; simp
  have hr2 : Rd W l h A1 z1 := by rw [hW]; exact (hr.alloc _).alloc _
  have hB : Below w.heap.size w W := by rw [hW]; exact (((Below.refl _ _).alloc (Nat.le_refl _) _).alloc (by simp) _)
  have bK : Bk W w.heap.size 26 #[.int .i64 k1, .int .i64 p1, .slice A1 z1.length c1] := by rw [hW]; exact (Bk.new w _ _).alloc _
  have bZ : Bk W (w.heap.size + 1) 26 #[.int .i64 0, .int .i64 0, .slice none 0 0] := by rw [hW]; exact Bk.new2 w _ _ _
  have y0 := bK.cell 0
  have y1 := bK.cell 1
  have y2 := bK.cell 2
  have t0 := bZ.cell 0
  have t1 := bZ.cell 1
  have t2 := bZ.cell 2
  have f0 := bZ.frozen 0
  have f1 := bZ.frozen 1
  have f2 := bZ.frozen 2
  simp at y0 y1 y2 t0 t1 t2
  go_enter Tryz.func78, Tryz.ntmps78
  go_wp2_with fail
  rw [← hW]
  clear hW
  have blt : w.heap.size < W.heap.size := by omega
  go_region_held3 (fun w' => w'.cell? ⟨w.heap.size, 0, none⟩ = some (.int .i64 k1) ∧ w'.cell? ⟨w.heap.size, 1, none⟩ = some (.int .i64 p1) ∧ w'.cell? ⟨w.heap.size, 2, none⟩ = some (.slice A1 z1.length c1))
    (first | go_keep | ((try go_split_ands); (try dsimp only); (repeat' apply And.intro) <;> (first | go_keep | ((refine (hc7 _ _ ?_).trans ?_) <;> first | assumption | omega | (simp <;> omega)) | ((refine (hf7 _ _ ?_).trans ?_) <;> first | assumption | omega | (simp <;> omega)))))
    (first | (go_at_call 95; ((with_reducible refine (l1Put_any z1 A1 c1 page _ hr2.drew hl hcap hc2 hA).mono ?_); rintro e w7 ⟨A7, c7, l7, h7, rfl, q7, hor7, lc7, mc7, hb7⟩; (have hc7 := (bcell hb7).1); (have hf7 := (bcell hb7).2); (have t0' := (hc7 _ _ (by simp; omega)).trans t0); (have t1' := (hc7 _ _ (by simp; omega)).trans t1); (have t2' := (hc7 _ _ (by simp; omega)).trans t2); (have f0' := (hf7 _ _ (by simp; omega)).trans f0); (have f1' := (hf7 _ _ (by simp; omega)).trans f1); (have f2' := (hf7 _ _ (by simp; omega)).trans f2))))
  have bZ7 := (bZ.drew).st hb7
  have c0 := ((bZ7.set_ 0 (.int .i64 k1)).set_ 1 (.int .i64 p1)).set_ 2 (.slice A7 (putL z1 page).length c7)
  have v0 := c0.cell 0
  have v1 := c0.cell 1
  have v2 := c0.cell 2
  simp at v0 v1 v2
  have hB7 := (hB.drew).trans (hb7.mono (by simp; omega))
  have hq7 : Hid (Rd (((w7.setCell ⟨w.heap.size + 1, 0, none⟩ (.int .i64 k1)).setCell ⟨w.heap.size + 1, 1, none⟩ (.int .i64 p1)).setCell ⟨w.heap.size + 1, 2, none⟩ (.slice A7 (putL z1 page).length c7)) l7 h7 A7 (putL z1 page)) := Lib.hid (by
    have hx : h7 ≤ w.heap.size + 1 ∨ w.heap.size + 1 < l7 := by
      rcases hor7 with ⟨_, e⟩ | e
      · omega
      · have : l7 = W.heap.size := e
        omega
    exact ((q7.store hx _).store hx _).store hx _)
  have hor7' : (l7 = l ∧ h7 = h) ∨ w.heap.size + 2 ≤ l7 := by
    rcases hor7 with e | e
    · exact .inl e
    · have : l7 = W.heap.size := e
      exact .inr (by omega)
  have hBH := Lib.hid hB7
  clear q7 hB7 hb7 c0 bZ7
  go_wp2_with fail
  refine bodyPost_ret (v := .agg #[.int .i64 k1, .int .i64 p1, .slice A7 (putL z1 page).length c7]) (by simp [results, Tryz.results78, go_sem, t0', t1', t2']) rfl ⟨A7, c7, l7, h7, rfl, hq7.out, hor7', lc7, mc7, ?_⟩
  exact ((hBH.out.setCell (by dsimp only; omega) _).setCell (by dsimp only; omega) _).setCell (by dsimp only; omega) _
theorem Sort_n (zs : List Int) (n g c : Nat) {lo hi : Nat} (w : World) (hn : n = zs.length) (hown : Own w lo hi (.slice (some ⟨g, 0, none⟩) n c) zs) (hl : n ≤ 1048576) :
    Calls Tryz.prog 91 #[.slice (some ⟨g, 0, none⟩) n c] w fun e w' => e = .returned (.tuple #[]) ∧ Own w' lo hi (.slice (some ⟨g, 0, none⟩) n c) (srtL zs) ∧ Fr lo hi w w' := by
  subst hn; exact Sort_own zs g c w hown hl
set_option maxHeartbeats 2000000 in
theorem usePage_any (k1 p1 : Int) (z1 : List Int) (A1 : Option Addr) (c1 : Nat) (page : Int) {l h : Nat} (w : World) (hr0 : Rd w l h A1 z1) (hl : z1.length ≤ 1048575) :
    Calls Tryz.prog 76 #[.agg #[.int .i64 k1, .int .i64 p1, .slice A1 z1.length c1], .int .i64 page] w fun e w' => ∃ A' c', e = .returned (.agg #[.int .i64 k1, .int .i64 p1, .slice A' (z1.length + 1) c']) ∧ Own w' w.heap.size w'.heap.size (.slice A' (z1.length + 1) c') (srtL (z1 ++ [page])) ∧ Below w.heap.size w w' := by
  have hr := hr0.std
  clear hr0
  have bK := (Bk.new w 26 #[.int .i64 k1, .int .i64 p1, .slice A1 z1.length c1]).alloc (.cells #[.int .i64 0, .int .i64 0, .slice none 0 0] 26)
  have bZ := Bk.new2 w (.cells #[.int .i64 k1, .int .i64 p1, .slice A1 z1.length c1] 26) 26 #[.int .i64 0, .int .i64 0, .slice none 0 0]
  have hB := ((Below.refl w.heap.size w).alloc (Nat.le_refl _) (.cells #[.int .i64 k1, .int .i64 p1, .slice A1 z1.length c1] 26)).alloc (by simp) (.cells #[.int .i64 0, .int .i64 0, .slice none 0 0] 26)
  go_enter Tryz.func76, Tryz.ntmps76
  go_wp2_with fail
  refine (Clone_any z1 A1 c1 _ ((hr.alloc _).alloc _) (by omega)).mono ?_
  rintro e w1 ⟨v1, rfl, o1, hb1⟩
  have s1 : w.heap.size + 2 ≤ w1.heap.size := by have := hb1.size; simpa using this
  have bK1 := bK.st hb1
  have bZ1 := bZ.st hb1
  have hB1 := hB.trans (hb1.mono (by simp; omega))
  have e2 : ((w.alloc (.cells #[.int .i64 k1, .int .i64 p1, .slice A1 z1.length c1] 26)).alloc (.cells #[.int .i64 0, .int .i64 0, .slice none 0 0] 26)).heap.size = w.heap.size + 2 := by simp
  rw [e2] at o1
  clear hb1 bK bZ hB e2
  go_wp2_with (at_builtin; refine wp_append_ints rfl (.tmp 8) (.tmp 10) rfl rfl (o1.alloc _) (ys := [page]) rfl ((Rd.one w1 _ _ _ rfl).mono (Nat.zero_le _) (by simp)) (by simp; omega) (by simp; omega) ?_; intro v2 w2 o2 g2 b2 at2; refine Rest.of ?_)
  refine Rest.intro ?_
  have s2 : w1.heap.size + 1 ≤ w2.heap.size := by have := b2.size; simpa using this
  have bK2 := (bK1.alloc _).below b2 (by omega)
  have bZ2 := (bZ1.alloc _).below b2 (by omega)
  have hB2 := (hB1.alloc (by omega) _).trans (b2.mono (by omega))
  obtain ⟨g, c2, rfl, gl, gh, _, _, _⟩ := o2.at_ (by simp)
  have hlen : (z1 ++ [page]).length = z1.length + 1 := by simp
  clear o1 bK1 bZ1 hB1 g2 b2 at2
  go_wp2_with fail
  rw [hlen] at o2
  (with_reducible refine (Sort_n (z1 ++ [page]) (z1.length + 1) g c2 _ hlen.symm o2 (by omega)).mono ?_)
  rintro e w3 ⟨rfl, o3, f3⟩
  have s3 := f3.size
  have bK3 := bK2.fr f3 (by omega)
  have bZ3 := bZ2.fr f3 (by omega)
  have hB3 := Lib.hid (hB2.trans (f3.below (by omega) (by omega) : Below w.heap.size w2 w3))
  have y0 := bK3.cell 0
  have y1 := bK3.cell 1
  have f0 := bZ3.frozen 0
  have f1 := bZ3.frozen 1
  have f2 := bZ3.frozen 2
  have t0 := bZ3.cell 0
  have t1 := bZ3.cell 1
  have t2 := bZ3.cell 2
  simp at y0 y1 t0 t1 t2
  have ho := Lib.hid o3
  clear o2 o3 bK2 bZ2 bK3 bZ3 hB2 f3
  go_wp2_with fail
  refine bodyPost_ret (v := .agg #[.int .i64 k1, .int .i64 p1, .slice (some ⟨g, 0, none⟩) (z1.length + 1) c2]) (by simp [results, Tryz.results76, go_sem, t0, t1, t2]) rfl ⟨_, c2, rfl, ?_, ?_⟩
  · simp only [size_setCell]
    exact (((ho.out.setCell (.inl (by dsimp only; omega)) _).setCell (.inl (by dsimp only; omega)) _).setCell (.inl (by dsimp only; omega)) _).mono (by omega) (by omega)
  · exact ((hB3.out.setCell (by dsimp only; omega) _).setCell (by dsimp only; omega) _).setCell (by dsimp only; omega) _
end Go.Proofs.YtjhbffndiaggmaaGreatDoor
