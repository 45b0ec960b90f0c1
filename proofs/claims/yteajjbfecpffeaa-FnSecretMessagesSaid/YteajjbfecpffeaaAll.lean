/-
  Contracts of the numbers of several pages, and of signals moved on by them, in the reference and in the program. The conditions are bounds on lengths.
-/
import Derived.Test.YteajjbfecpffeaaHide
import Derived.Test.YteajjbfecpffeaaStepI
import Derived.Deep.RegionHeld3
namespace Go.Proofs.Yteajjbfecpffeaa
open Go.RowKit Go.ChangeShapes Go.WideShapes
set_option linter.unusedVariables false
set_option linter.unusedSimpArgs false

/-- the numbers of pages, one after the other -/
def numsL (key : Int) (ps : List Int) : List Int := ps.flatMap (pageL key)
theorem numsL_len (key : Int) (ps : List Int) : (numsL key ps).length = 20 * ps.length := by
  induction ps with
  | nil => rfl
  | cons p ps ih => simp only [numsL, List.flatMap_cons, List.length_append, pageL_len, List.length_cons] at ih ⊢; omega
theorem numsL_append (key : Int) (ps qs : List Int) : numsL key (ps ++ qs) = numsL key ps ++ numsL key qs := by simp [numsL]
theorem numsL_take (key : Int) (ps : List Int) (k : Nat) (h : k < ps.length) : numsL key (ps.take (k + 1)) = numsL key (ps.take k) ++ pageL key ps[k] := by
  rw [List.take_succ_eq_append_getElem h, numsL_append]; simp [numsL]
theorem numsL_bd (key : Int) (ps : List Int) : ∀ k (_ : k < (numsL key ps).length), 0 ≤ (numsL key ps)[k] ∧ (numsL key ps)[k] ≤ 59 := by
  intro k hk
  have hm : (numsL key ps)[k] ∈ numsL key ps := List.getElem_mem hk
  simp only [numsL, List.mem_flatMap] at hm
  obtain ⟨p, _, hp⟩ := hm
  obtain ⟨j, hj, e⟩ := List.getElem_of_mem hp
  have := pageL_bd key p j hj
  rw [e] at this
  exact this
theorem numsL_split (key : Int) (ps : List Int) (k : Nat) (h : k < ps.length) : ((numsL key ps).drop (20 * k)).take 20 = pageL key ps[k] := by
  have e : numsL key ps = numsL key (ps.take k) ++ (pageL key ps[k] ++ numsL key (ps.drop (k + 1))) := by
    rw [← List.append_assoc, ← numsL_take key ps k h, ← numsL_append, List.take_append_drop]
  have hl : (numsL key (ps.take k)).length = 20 * k := by rw [numsL_len, List.length_take, Nat.min_eq_left (by omega)]
  rw [e, List.drop_left' hl, List.take_left' (pageL_len key _)]
theorem shL_take (ss ns : List Int) (by_ : Int) (n : Nat) : (shL ss ns by_).take n = shL (ss.take n) (ns.take n) by_ := by simp [shL, List.take_zipWith]
theorem shL_drop (ss ns : List Int) (by_ : Int) (n : Nat) : (shL ss ns by_).drop n = shL (ss.drop n) (ns.drop n) by_ := by simp [shL, List.drop_zipWith]
def saTo (ss : List Int) (key : Int) (ps : List Int) (by_ : Int) (k : Nat) : List Int := (shL ss (numsL key ps) by_).take (20 * k)
theorem saTo_zero (ss : List Int) (key : Int) (ps : List Int) (by_ : Int) : saTo ss key ps by_ 0 = [] := by simp [saTo]
theorem saTo_succ (ss : List Int) (key : Int) (ps : List Int) (by_ : Int) (k : Nat) (h : k < ps.length) : saTo ss key ps by_ (k + 1) = saTo ss key ps by_ k ++ shL ((ss.drop (20 * k)).take 20) (pageL key ps[k]) by_ := by
  unfold saTo
  have e1 : (shL ss (numsL key ps) by_).drop (20 * k) = shL (ss.drop (20 * k)) ((numsL key ps).drop (20 * k)) by_ := shL_drop _ _ _ _
  rw [show 20 * (k + 1) = 20 * k + 20 from by omega, List.take_add, e1]
  congr 1
  rw [shL_take, numsL_split key ps k h]
theorem saTo_all (ss : List Int) (key : Int) (ps : List Int) (by_ : Int) : saTo ss key ps by_ ps.length = shL ss (numsL key ps) by_ := by
  unfold saTo
  rw [List.take_of_length_le]
  rw [← numsL_len key ps]; simp [shL]; omega
theorem saTo_len (ss : List Int) (key : Int) (ps : List Int) (by_ : Int) (k : Nat) : (saTo ss key ps by_ k).length ≤ ss.length := by
  unfold saTo; rw [List.length_take]; simp [shL]; omega

theorem wrap_nat (a : Nat) (h : a < 9223372036854775808) : IntKind.i64.wrap (a : Int) = (a : Int) := by
  exact Go.IntWalk.i64_in _ (by omega)
set_option maxHeartbeats 1000000 in
theorem numbersOf_any (k1 p1 : Int) (us : List Int) (A1 : Option Addr) (c1 : Nat) (ps : List Int) (Ap : Option Addr) (cp : Nat) {l h : Nat} (w : World) (hr0 : Rd w l h Ap ps) (hl : ps.length ≤ 1048576) (hk1 : 0 ≤ k1 ∧ k1 ≤ 1000000000) (hps : ∀ k (_ : k < ps.length), 0 ≤ ps[k] ∧ ps[k] ≤ 59) :
    Calls Try.prog 74 #[.agg #[.int .i64 k1, .int .i64 p1, .slice A1 us.length c1], .slice Ap ps.length cp] w fun e w' => ∃ A c, e = .returned (.slice A (numsL k1 ps).length c) ∧ Own w' w.heap.size w'.heap.size (.slice A (numsL k1 ps).length c) (numsL k1 ps) ∧ Below w.heap.size w w' := by
  have hr := hr0.std
  clear hr0
  go_enter Try.func74, Try.ntmps74
  go_wp2
  go_loopw [5, 7, 10] (fun v _ i wr => ∃ k : Nat, k ≤ ps.length ∧ i = .int .i64 k ∧ Own wr (w.heap.size + 1) wr.heap.size v (numsL k1 (ps.take k)) ∧
      Bk wr w.heap.size 52 #[.int .i64 k1, .int .i64 p1, .slice A1 us.length c1] ∧ Below w.heap.size w wr ∧ w.heap.size + 1 ≤ wr.heap.size) (fun _ _ i _ => ps.length - (intOf i).toNat)
  case atStart => exact ⟨0, Nat.zero_le _, rfl, Own.nil, Bk.new w _ _, (Below.refl _ _).alloc (Nat.le_refl _) _, by simp⟩
  case round =>
    obtain ⟨k, hk, rfl, hown, hbk, hbr, hsr⟩ := hrel
    by_cases hlt : k < ps.length
    · obtain ⟨b, off, rfl, _, _, hc⟩ := (hr.below hbr (Nat.le_refl _)) (by omega)
      have x0 := hc k hlt
      have hpk := hps k hlt
      have hst := Lib.hid (numsL_take k1 ps k hlt)
      have hnl : (numsL k1 (ps.take k)).length ≤ 20971520 := by rw [numsL_len, List.length_take]; omega
      have hpl : (pageL k1 ps[k]).length = 20 := pageL_len k1 _
      have hcat : (numsL k1 (ps.take k)).length + (pageL k1 ps[k]).length ≤ 1099511627776 := by omega
      have a0 := hbk.cell 0
      have a1 := hbk.cell 1
      have a2 := hbk.cell 2
      have hbl := hbk.lt
      simp at a0 a1 a2
      clear hc hnl hpl
      go_wp2_with fail
      (with_reducible refine (pageOf_any k1 p1 us A1 c1 ps[k] _ hk1 hpk).mono ?_)
      rintro e w2 ⟨A2, c2, rfl, o2, hb2⟩
      have s2 : wr.heap.size ≤ w2.heap.size := hb2.size
      have ho2 := hown.st hb2
      have hk2 := hbk.st hb2
      have hB2 := hbr.trans (hb2.mono (by omega))
      clear hown hbk hbr a0 a1 a2 hb2
      go_wp2_with (at_builtin; refine wp_append_ints rfl (.tmp 14) (.tmp 17) rfl rfl ho2 (ys := pageL k1 ps[k]) rfl o2.rd'.std hcat (by omega) ?_; intro v3 w3 hown3 hg3 hb3 hat3)
      have s3 : w2.heap.size ≤ w3.heap.size := hg3.size
      have hk3 : Hid (Bk w3 w.heap.size 52 _) := hk2.below hb3 (by omega)
      have hB3 : Hid (Below w.heap.size w w3) := hB2.trans (hb3.mono (by omega))
      have ho3 := Lib.hid hown3
      clear hown3 hg3 hb3 hat3 ho2 hk2 hB2 o2
      go_roundw
      case rel => exact ⟨k + 1, by omega, by go_num, by rw [hst.out]; exact ho3.out, hk3.out, hB3.out, by omega⟩
      case measure => simp [intOf]; omega
    · obtain rfl : k = ps.length := by omega
      rw [List.take_length] at hown
      obtain ⟨A, c, rfl, -, -⟩ := hown.rd
      have ho : Hid (Own wr w.heap.size wr.heap.size _ _) := hown.mono (by omega) (Nat.le_refl _)
      clear hown
      go_wp2
      go_ret
      exact ⟨_, _, rfl, ho.out, hbr⟩
theorem l1Least_v (a b : Int) (w : World) (v : Int) (hv : (if a < b then a else b) = v) :
    Calls Try.prog 115 #[.int .i64 a, .int .i64 b] w fun e w' => e = .returned (.int .i64 v) ∧ w = w' := by
  by_cases h : a < b
  · rw [if_pos h] at hv
    subst hv
    go_enter Try.func115, Try.ntmps115
    go_wp2
    go_ret
    exact ⟨rfl, rfl⟩
  · rw [if_neg h] at hv
    subst hv
    go_enter Try.func115, Try.ntmps115
    go_wp2
    go_ret
    exact ⟨rfl, rfl⟩
theorem scAdd_n (ss : List Int) (n : Nat) (A : Option Addr) (c : Nat) (ns : List Int) (A' : Option Addr) (c' : Nat) (by_ : Int) {l h l' h' : Nat} (w : World) (hn0 : n = ss.length) (hr0 : Rd w l h A ss) (hr0' : Rd w l' h' A' ns) (hl : ss.length ≤ ns.length) (hl2 : n ≤ 1000000)
    (ha : ∀ k (_ : k < ss.length), 1 ≤ ss[k] ∧ ss[k] ≤ 60) (hn : ∀ k (_ : k < ns.length), 0 ≤ ns[k] ∧ ns[k] ≤ 59) (hb : by_ = 1 ∨ by_ = -1) :
    Calls Try.prog 116 #[.slice A' ns.length c', .slice A n c, .int .i64 by_] w fun e w' => ∃ A2 c2, e = .returned (.slice A2 (shL ss ns by_).length c2) ∧ Own w' w.heap.size w'.heap.size (.slice A2 (shL ss ns by_).length c2) (shL ss ns by_) ∧ Below w.heap.size w w' := by
  subst hn0; exact scAdd_any ss A c ns A' c' by_ w hr0 hr0' hl (by omega) ha hn hb
theorem rd_part {w : World} {lo hi b off : Nat} {zs : List Int} (h : Rd w lo hi (some ⟨b, off, none⟩) zs) (a n : Nat) : Rd w lo hi (some ⟨b, off + a, none⟩) ((zs.drop a).take n) := fun hp => by
  rw [List.length_take, List.length_drop] at hp
  obtain ⟨b', off', e, a1, a2, hc⟩ := h (by omega)
  obtain rfl : b = b' := congrArg Addr.block (Option.some.inj e)
  obtain rfl : off = off' := congrArg Addr.off (Option.some.inj e)
  refine ⟨_, _, rfl, a1, a2, fun j hj => ?_⟩
  rw [List.length_take, List.length_drop] at hj
  rw [List.getElem_take, List.getElem_drop, Nat.add_assoc]
  exact hc (a + j) (by omega)
set_option maxHeartbeats 2000000 in
theorem scAll_any (k1 p1 : Int) (us : List Int) (A1 : Option Addr) (c1 : Nat) (ps : List Int) (Ap : Option Addr) (cp : Nat) (ss : List Int) (As : Option Addr) (cs : Nat) (by_ : Int) {l h l' h' : Nat} (w : World) (hr0 : Rd w l h Ap ps) (hs0 : Rd w l' h' As ss) (hk1 : 0 ≤ k1 ∧ k1 ≤ 1000000000) (hps : ∀ k (_ : k < ps.length), 0 ≤ ps[k] ∧ ps[k] ≤ 59)
    (hss : ∀ k (_ : k < ss.length), 1 ≤ ss[k] ∧ ss[k] ≤ 60) (hl : ps.length ≤ 10000) (h1 : 20 * ps.length < ss.length + 20) (h2 : ss.length ≤ 20 * ps.length) (hcap : ss.length ≤ cs) (hby : by_ = 1 ∨ by_ = -1) :
    Calls Try.prog 77 #[.agg #[.int .i64 k1, .int .i64 p1, .slice A1 us.length c1], .slice Ap ps.length cp, .slice As ss.length cs, .int .i64 by_] w fun e w' => ∃ A c, e = .returned (.slice A (shL ss (numsL k1 ps) by_).length c) ∧ Own w' w.heap.size w'.heap.size (.slice A (shL ss (numsL k1 ps) by_).length c) (shL ss (numsL k1 ps) by_) ∧ Below w.heap.size w w' := by
  have hr := hr0.std
  have hs := hs0.std
  clear hr0 hs0
  go_enter Try.func77, Try.ntmps77
  go_wp2
  go_loopw [9, 10, 11, 12, 15] (fun v _ _ _ i wr => ∃ k : Nat, k ≤ ps.length ∧ i = .int .i64 k ∧ Own wr (w.heap.size + 1) wr.heap.size v (saTo ss k1 ps by_ k) ∧
      Bk wr w.heap.size 52 #[.int .i64 k1, .int .i64 p1, .slice A1 us.length c1] ∧ Below w.heap.size w wr ∧ w.heap.size + 1 ≤ wr.heap.size) (fun _ _ _ _ i _ => ps.length - (intOf i).toNat)
  case atStart => exact ⟨0, Nat.zero_le _, rfl, Own.nil, Bk.new w _ _, (Below.refl _ _).alloc (Nat.le_refl _) _, by simp⟩
  case round =>
    obtain ⟨k, hk, rfl, hown, hbk, hbr, hsr⟩ := hrel
    by_cases hlt : k < ps.length
    · obtain ⟨b, off, rfl, _, _, hc⟩ := (hr.below hbr (Nat.le_refl _)) (by omega)
      have hsw := hs.below hbr (Nat.le_refl _)
      obtain ⟨bs, os, rfl, _, _, _⟩ := hsw (by omega)
      have x0 := hc k hlt
      have hpk := hps k hlt
      obtain ⟨a, ha⟩ : ∃ a : Nat, a = 20 * k := ⟨_, rfl⟩
      have hst := Lib.hid (saTo_succ ss k1 ps by_ k hlt)
      rw [← ha] at hst
      have hm : (k : Int) * 20 = (a : Int) := by omega
      have hal : a < ss.length := by omega
      obtain ⟨e, he, e1, e2⟩ : ∃ e : Nat, (if (ss.length : Int) < ((k : Int) + 1) * 20 then (ss.length : Int) else ((k : Int) + 1) * 20) = (e : Int) ∧ a ≤ e ∧ e ≤ ss.length ∧ e - a = ((ss.drop a).take 20).length := by
        rw [List.length_take, List.length_drop]
        by_cases hx : (ss.length : Int) < ((k : Int) + 1) * 20
        · exact ⟨ss.length, by rw [if_pos hx], by omega, by omega, by omega⟩
        · exact ⟨20 * (k + 1), by rw [if_neg hx]; omega, by omega, by omega, by omega⟩
      obtain ⟨e2, hn'⟩ := e2
      have hss' := rd_part hsw a 20
      have hl' : ((ss.drop a).take 20).length ≤ (pageL k1 ps[k]).length := by rw [pageL_len, List.length_take]; omega
      have ha' : ∀ j (_ : j < ((ss.drop a).take 20).length), 1 ≤ ((ss.drop a).take 20)[j] ∧ ((ss.drop a).take 20)[j] ≤ 60 := fun j hj => by
        rw [List.getElem_take, List.getElem_drop]; exact hss _ _
      have hnl := saTo_len ss k1 ps by_ k
      have hsl : (shL ((ss.drop a).take 20) (pageL k1 ps[k]) by_).length ≤ 20 := by rw [shL_len _ _ _ hl', List.length_take]; omega
      have hcat : (saTo ss k1 ps by_ k).length + (shL ((ss.drop a).take 20) (pageL k1 ps[k]) by_).length ≤ 1099511627776 := by omega
      have hsr' : w.heap.size ≤ wr.heap.size := by omega
      have y0_0 := hbk.cell 0
      have y0_1 := hbk.cell 1
      have y0_2 := hbk.cell 2
      have hbl := hbk.lt
      simp at y0_0 y0_1 y0_2
      have hw : IntKind.i64.wrap (a : Int) = (a : Int) := wrap_nat a (by omega)
      have hec : e ≤ cs := by omega
      have hac : (cs = a) = False := by simp; omega
      have haH := Lib.hid ha
      have hn'H := Lib.hid hn'
      clear hc hnl hsl ha hn'
      go_wp2_with (go_at_call 115; (with_reducible refine (l1Least_v _ _ _ _ he).mono ?_); rintro e w' ⟨rfl, rfl⟩)
      refine wp_region_held_drew (S := (fun w' => w'.cell? ⟨w.heap.size, 0, none⟩ = some (.int .i64 k1) ∧ w'.cell? ⟨w.heap.size, 1, none⟩ = some (.int .i64 p1) ∧ w'.cell? ⟨w.heap.size, 2, none⟩ = some (.slice A1 us.length c1))) (by kernel_rfl) ?_ (fun hHeld => ?_)
      · (try dsimp only); (refine ⟨?_, ?_, ?_⟩ <;> assumption)
      refine wpAnyH_take (i := 0) (oi := ⟨(some 26), _, _, _, _, _⟩) (v := ?_) rfl (by kernel_rfl) (by kernel_rfl) (by kernel_rfl) (fun _ _ _ h => h) (Or.inl ⟨by rfl, ?hv1⟩) (by assumption) ?hn1
      case hv1 => (intro w hSw; (try dsimp only at hSw); (first | (go_simp; done) | (go_simp; with_reducible rfl)))
      try simp only [Act.put, List.setIfInBounds_toArray, List.set_cons_zero, List.set_cons_succ]
      refine wpAnyH_take (i := 1) (oi := ⟨(some 27), _, _, _, _, _⟩) (v := ?_) rfl (by kernel_rfl) (by kernel_rfl) (by kernel_rfl) (fun _ _ _ h => h) (Or.inl ⟨by rfl, ?hv2⟩) (by assumption) ?hn2
      case hv2 => (intro w hSw; (try dsimp only at hSw); (first | (go_simp; done) | (go_simp; with_reducible rfl)))
      try simp only [Act.put, List.setIfInBounds_toArray, List.set_cons_zero, List.set_cons_succ]
      refine wpAnyH_take (i := 2) (oi := ⟨(some 28), _, _, _, _, _⟩) (v := ?_) rfl (by kernel_rfl) (by kernel_rfl) (by kernel_rfl) (fun _ _ _ h => h) (Or.inl ⟨by rfl, ?hv3⟩) (by assumption) ?hn3
      case hv3 => (intro w hSw; (try dsimp only at hSw); (first | (go_simp; done) | (go_simp; with_reducible rfl)))
      try simp only [Act.put, List.setIfInBounds_toArray, List.set_cons_zero, List.set_cons_succ]
      refine wpAnyH_take (i := 4) (oi := ⟨(some 30), _, _, _, _, _⟩) (v := ?_) rfl (by kernel_rfl) (by kernel_rfl) (by kernel_rfl) (fun _ _ _ h => h) (Or.inl ⟨by rfl, ?hv4⟩) (by assumption) ?hn4
      case hv4 => (intro w hSw; (try dsimp only at hSw); (first | (go_simp; done) | (go_simp; with_reducible rfl)))
      try simp only [Act.put, List.setIfInBounds_toArray, List.set_cons_zero, List.set_cons_succ]
      refine wpAnyH_take (i := 5) (oi := ⟨(some 31), _, _, _, _, _⟩) (v := ?_) rfl (by kernel_rfl) (by kernel_rfl) (by kernel_rfl) (fun _ _ _ h => h) (Or.inl ⟨by rfl, ?hv5⟩) (by assumption) ?hn5
      case hv5 => (intro w hSw; (try dsimp only at hSw); (first | (go_simp; done) | (go_simp; with_reducible rfl)))
      try simp only [Act.put, List.setIfInBounds_toArray, List.set_cons_zero, List.set_cons_succ]
      refine wpAnyH_take (i := 6) (oi := ⟨(some 32), _, _, _, _, _⟩) (v := ?_) rfl (by kernel_rfl) (by kernel_rfl) (by kernel_rfl) (fun _ _ _ h => h) (Or.inl ⟨by rfl, ?hv6⟩) (by assumption) ?hn6
      case hv6 => (intro w hSw; (try dsimp only at hSw); (first | (go_simp; done) | (go_simp; with_reducible rfl)))
      try simp only [Act.put, List.setIfInBounds_toArray, List.set_cons_zero, List.set_cons_succ]
      refine wpAnyH_take (i := 7) (oi := ⟨(some 33), _, _, _, _, _⟩) (v := ?_) rfl (by kernel_rfl) (by kernel_rfl) (by kernel_rfl) (fun _ _ _ h => h) (Or.inl ⟨by rfl, ?hv7⟩) (by assumption) ?hn7
      case hv7 => (intro w hSw; (try dsimp only at hSw); (first | (go_simp; done) | (go_simp; with_reducible rfl)))
      try simp only [Act.put, List.setIfInBounds_toArray, List.set_cons_zero, List.set_cons_succ]
      refine wpAnyH_take (i := 8) (oi := ⟨(some 34), _, _, _, _, _⟩) (v := ?_) rfl (by kernel_rfl) (by kernel_rfl) (by kernel_rfl) (fun _ _ _ h => h) (Or.inl ⟨by rfl, ?hv8⟩) (by assumption) ?hn8
      case hv8 => (intro w hSw; (try dsimp only at hSw); (first | (go_simp; done) | (go_simp; with_reducible rfl)))
      try simp only [Act.put, List.setIfInBounds_toArray, List.set_cons_zero, List.set_cons_succ]
      refine wpAnyH_take (i := 9) (oi := ⟨(some 35), _, _, _, _, _⟩) (v := ?_) rfl (by kernel_rfl) (by kernel_rfl) (by kernel_rfl) (fun _ _ _ h => h) (Or.inl ⟨by rfl, ?hv9⟩) (by assumption) ?hn9
      case hv9 => (intro w hSw; (try dsimp only at hSw); (first | (go_simp; done) | (go_simp; with_reducible rfl)))
      try simp only [Act.put, List.setIfInBounds_toArray, List.set_cons_zero, List.set_cons_succ]
      refine wpAnyH_ready (rs := [3]) (by kernel_rfl) (by simp) ?_
      refine AllReadyH.cons (o := ⟨(some 29), _, _, _, _, _⟩) rfl (fun K hK => ?_) AllReadyH.nil
      go_simp
      (with_reducible refine (kyPage_any k1 p1 us A1 c1 ps[k] _ hk1 hpk).mono ?_)
      rintro e w3 ⟨A3, c3, rfl, o3, hb3⟩
      have s3 : wr.heap.size ≤ w3.heap.size := hb3.size
      have bk3 := (hbk.drew).st hb3
      have hB3 : Below w.heap.size w w3 := (hbr.drew).trans (hb3.mono hsr')
      have ho3 := (hown.drew).st hb3
      have hs3 := (hss'.drew).st hb3
      have y3_0 := bk3.cell 0
      have y3_1 := bk3.cell 1
      have y3_2 := bk3.cell 2
      simp at y3_0 y3_1 y3_2
      refine hK.out _ _ ?_ (fun hHeld3 => ?_)
      · (try dsimp only); (refine ⟨?_, ?_, ?_⟩ <;> assumption)
      clear hK K
      try simp only [Act.put, List.setIfInBounds_toArray, List.set_cons_zero, List.set_cons_succ]
      refine wpAnyH_ready (rs := [10]) (by kernel_rfl) (by simp) ?_
      refine AllReadyH.cons (o := ⟨(some 36), _, _, _, _, _⟩) rfl (fun K hK => ?_) AllReadyH.nil
      go_simp
      (with_reducible refine (scAdd_n ((ss.drop a).take 20) _ _ _ (pageL k1 ps[k]) A3 c3 by_ _ hn'H.out hs3 o3.rd' hl' (by have := hn'H.out; rw [List.length_take, List.length_drop] at this; omega) ha' (pageL_bd k1 ps[k]) hby).mono ?_)
      rintro e w4 ⟨A4, c4, rfl, o4, hb4⟩
      have s4 : w3.heap.size ≤ w4.heap.size := hb4.size
      have bk4 := bk3.st hb4
      have hB4 : Below w.heap.size w w4 := hB3.trans (hb4.mono (by omega))
      have ho4 := ho3.st hb4
      have y4_0 := bk4.cell 0
      have y4_1 := bk4.cell 1
      have y4_2 := bk4.cell 2
      simp at y4_0 y4_1 y4_2
      refine hK.out _ _ ?_ (fun hHeld10 => ?_)
      · (try dsimp only); (refine ⟨?_, ?_, ?_⟩ <;> assumption)
      clear hK K
      try simp only [Act.put, List.setIfInBounds_toArray, List.set_cons_zero, List.set_cons_succ]
      refine wpAnyH_ready (rs := [11]) (by kernel_rfl) (by simp) ?_
      refine AllReadyH.cons (o := ⟨(some 37), _, _, _, _, _⟩) rfl (fun K hK => ?_) AllReadyH.nil
      skip
      refine step_append_ints rfl (.tmp 26) (.tmp 36) rfl rfl ho4 rfl o4.rd'.std hcat (by omega) ?_
      intro v5 w5 o5 g5 hb5 hat5
      have s5 : w4.heap.size ≤ w5.heap.size := g5.size
      have bk5 := bk4.below hb5 (by omega)
      have hB5 : Below w.heap.size w w5 := hB4.trans (hb5.mono (by omega))
      have y5_0 := bk5.cell 0
      have y5_1 := bk5.cell 1
      have y5_2 := bk5.cell 2
      simp at y5_0 y5_1 y5_2
      refine hK.out _ _ ?_ (fun hHeld11 => ?_)
      · (try dsimp only); (refine ⟨?_, ?_, ?_⟩ <;> assumption)
      clear hK K
      try simp only [Act.put, List.setIfInBounds_toArray, List.set_cons_zero, List.set_cons_succ]
      refine wpAnyH_take (i := 12) (oi := ⟨(some 9), _, _, _, _, _⟩) (v := ?_) rfl (by kernel_rfl) (by kernel_rfl) (by kernel_rfl) (fun _ _ _ h => h) (Or.inl ⟨by rfl, ?hv10⟩) (by assumption) ?hn10
      case hv10 => (intro w hSw; (try dsimp only at hSw); (first | (go_simp; done) | (go_simp; with_reducible rfl)))
      try simp only [Act.put, List.setIfInBounds_toArray, List.set_cons_zero, List.set_cons_succ]
      refine wpAnyH_done (by kernel_rfl) ?_ _
      have ho5 := Lib.hid o5
      have hB5H := Lib.hid hB5
      have bk5H := Lib.hid bk5
      clear o5 hB5 bk5 hown hbk hbr ho3 ho4 o3 o4 bk3 bk4 hB3 hB4
      go_wp2
      go_roundw
      case rel => exact ⟨k + 1, by omega, by go_num, by rw [hst.out]; exact ho5.out, bk5H.out, hB5H.out, by omega⟩
      case measure => simp [intOf]; omega
    · obtain rfl : k = ps.length := by omega
      rw [saTo_all] at hown
      obtain ⟨A, c, rfl, -, -⟩ := hown.rd
      have ho : Hid (Own wr w.heap.size wr.heap.size _ _) := hown.mono (by omega) (Nat.le_refl _)
      clear hown
      go_wp2
      go_ret
      exact ⟨_, _, rfl, ho.out, hbr⟩
end Go.Proofs.Yteajjbfecpffeaa
