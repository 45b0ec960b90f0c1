/-
  Contract of the program's reading of joined numbers, both ways. The conditions are bounds on lengths, and the library's variables.
-/
import Derived.Test.YtaoobcjannbnjaaDoorRead
import Derived.Test.YtaoobcjannbnjaaDoorPureR
import Derived.Test.YtaoobcjannbnjaaDoorPureW
namespace Go.Proofs.YtaoobcjannbnjaaDoor
open Go.RowKit Go.ChangeShapes Go.WideShapes
set_option linter.unusedVariables false
set_option linter.unusedSimpArgs false

theorem split_call (b : UInt8) (l : List UInt8) (w : World) (hl : l.length ≤ 1048577) (hS : Sen w) :
    Calls Tryd.prog 72 #[.string (str l), .string { data := #[b] }] w fun e w' => e = .returned (.slice (some ⟨w.heap.size, 0, none⟩) (splitL b l).length (splitL b l).length) ∧ Bk w' w.heap.size 9 ((splitL b l).map fun p => Value.string (str p)).toArray ∧ Below w.heap.size w w' := by
  obtain ⟨m, hm⟩ := hS.len
  obtain ⟨h1, h2⟩ := split_pieces b l
  refine (Tryd.strings_Split (str l) (str [b]) m w (by rw [str_size]; omega) hm (by rw [str_size]; simp)).mono ?_
  rintro e w' ⟨rfl, rfl⟩
  rw [h2, h1, splitL_length, List.map_map]
  exact ⟨rfl, Bk.new w _ _, (Below.refl _ _).alloc (Nat.le_refl _) _⟩
theorem splitL_piece_le (b : UInt8) : ∀ (l : List UInt8), ∀ p ∈ splitL b l, p.length ≤ l.length := by
  intro l
  induction l with
  | nil => intro p hp; simp [splitL] at hp; subst hp; exact Nat.le_refl _
  | cons x r ih =>
    intro p hp
    rw [splitL] at hp
    split at hp
    · rcases List.mem_cons.1 hp with rfl | hp
      · simp
      · have := ih p hp; rw [List.length_cons]; omega
    · cases hs : splitL b r with
      | nil => exact absurd hs (splitL_ne b r)
      | cons h t =>
        rw [hs] at hp ih
        rcases List.mem_cons.1 hp with rfl | hp
        · have := ih h List.mem_cons_self; simp only [List.length_cons]; omega
        · have := ih p (List.mem_cons_of_mem _ hp); rw [List.length_cons]; omega
set_option maxRecDepth 100000 in
set_option maxHeartbeats 4000000 in
theorem splitNumbers_some (l : List UInt8) (b : UInt8) (w : World) (hl : l.length ≤ 1048577) (hS : Sen w) (ns : List Int) (hns : (splitL b l).map rnO = ns.map some) :
    Calls Tryd.prog 66 #[.string (str l), .string { data := #[b] }] w fun e w' => ∃ v, e = .returned (.tuple #[v, .bool true]) ∧ Own w' w.heap.size w'.heap.size v ns ∧ Below w.heap.size w w' := by
  obtain ⟨ps, hps⟩ : ∃ ps, ps = splitL b l := ⟨_, rfl⟩
  have hc := split_call b l w (by omega) hS
  have hlen : ps.length = ns.length := by have := congrArg List.length hns; rw [hps]; simpa using this
  have hle : ps.length ≤ 1048578 := by rw [hps, splitL_length]; have := List.count_le_length (a := b) (l := l); omega
  have hpc : ∀ p ∈ ps, p.length ≤ 1048577 := fun p hp => by have := splitL_piece_le b l p (by rw [← hps]; exact hp); omega
  have hat : ∀ k (h : k < ps.length) (h' : k < ns.length), rnO ps[k] = some ns[k] := fun k h h' => by
    have h3 := congrArg (fun x => x[k]?) hns
    simp only [← hps, List.getElem?_map, List.getElem?_eq_getElem h, List.getElem?_eq_getElem h', Option.map_some, Option.some.injEq] at h3
    exact h3
  rw [← hps] at hc
  have hatH := Lib.hid hat
  have hpcH := Lib.hid hpc
  clear hns hat hpc hps
  go_enter Tryd.func66, Tryd.ntmps66
  go_wp2_with fail
  (with_reducible refine hc.mono ?_)
  rintro e w1 ⟨rfl, hk1, hb1⟩
  have s1 := hb1.size
  have hS1 := hS.st hb1
  clear hc
  go_wp2_with fail
  go_loopw [6, 15] (fun v i wr => ∃ k : Nat, k ≤ ns.length ∧ i = .int .i64 k ∧ Own wr w1.heap.size wr.heap.size v (ns.take k) ∧ Below w1.heap.size w1 wr) (fun _ i _ => ps.length - (intOf i).toNat)
  case atStart => exact ⟨0, Nat.zero_le _, rfl, Own.nil, Below.refl _ _⟩
  case round =>
    obtain ⟨k, hk, rfl, hown, hbr⟩ := hrel
    have hszr := hbr.size
    obtain ⟨Av, cv, hv, -, -⟩ := hown.rd
    have htk0 : (ns.take k).length = k := by rw [List.length_take]; omega
    rw [htk0] at hv
    subst hv
    by_cases hlt : k < ps.length
    · have hlt2 : k < ns.length := by omega
      have x0 : wr.cell? ⟨w.heap.size, k, none⟩ = some (.string (str ps[k])) := by rw [(hk1.st hbr).cell k]; simp [hlt]
      have hrn := Lib.hid (hatH.out k hlt hlt2)
      have hpl := hpcH.out ps[k] (List.getElem_mem hlt)
      have htk := Lib.hid (List.take_succ_eq_append_getElem hlt2)
      have hSr := hS1.st hbr
      go_wp2_with fail
      (with_reducible refine (readNumber_some ps[k] _ hpl hSr ns[k] hrn.out).mono ?_)
      rintro e w2 ⟨rfl, hb2⟩
      have s2 := hb2.size
      have hown2 := hown.st hb2
      have hO := Lib.hid (hown2.mono (Nat.le_refl _) s2)
      have hB2 := Lib.hid (hbr.trans (hb2.mono hszr))
      have htkH := Lib.hid htk0
      clear htk0
      clear hown hown2 hb2 hbr x0 hSr
      go_wp2_with (at_builtin; refine wp_append_ints rfl (.tmp 26) (.tmp 28) rfl rfl (hO.out.alloc _) (ys := [ns[k]]) rfl ((Rd.one w2 _ _ _ rfl).mono (Nat.zero_le _) (by simp)) (by rw [htkH.out]; simp; omega) (by simp; omega) ?_; intro v3 w3 hown3 hg3 hb3 hat3)
      have hO3 := Lib.hid (show Own w3 w1.heap.size w3.heap.size v3 (ns.take (k + 1)) by rw [htk.out]; exact hown3)
      have hB3 := Lib.hid ((hB2.out.alloc (by omega) _).trans hb3)
      clear hown3 hg3 hb3 hat3
      go_roundw
      case rel => exact ⟨k + 1, by omega, by go_num, hO3.out, hB3.out⟩
      case measure => simp [intOf]; omega
    · have hkn : k = ns.length := by omega
      have hfin : ns.take k = ns := by rw [hkn, List.take_length]
      have hB := hb1.trans (hbr.mono s1)
      have hown2 : Own wr w.heap.size wr.heap.size (.slice Av k cv) ns := by
        have h5 := hown.mono s1 (Nat.le_refl _)
        rw [hfin] at h5; exact h5
      have hH := Lib.hid hown2
      clear hown hown2 hfin hbr
      go_wp2_with fail
      go_ret2
      exact ⟨_, rfl, hH.out, hB⟩
end Go.Proofs.YtaoobcjannbnjaaDoor

namespace Go.Proofs.YtaoobcjannbnjaaDoor
open Go.RowKit Go.ChangeShapes Go.WideShapes
set_option linter.unusedVariables false
set_option linter.unusedSimpArgs false

set_option maxRecDepth 100000 in
set_option maxHeartbeats 4000000 in
theorem splitNumbers_none (l : List UInt8) (b : UInt8) (w : World) (hl : l.length ≤ 1048577) (hS : Sen w) (hno : rnL (splitL b l) = none) :
    Calls Tryd.prog 66 #[.string (str l), .string { data := #[b] }] w fun e w' => e = .returned (.tuple #[.slice none 0 0, .bool false]) ∧ Below w.heap.size w w' := by
  obtain ⟨ps, hps⟩ : ∃ ps, splitL b l = ps := ⟨_, rfl⟩
  have hc := split_call b l w (by omega) hS
  have hpc : ∀ p ∈ ps, p.length ≤ 1048577 := fun p hp => by have := splitL_piece_le b l p (by rw [hps]; exact hp); omega
  have hle : ps.length ≤ 1048578 := by rw [← hps, splitL_length]; have := List.count_le_length (a := b) (l := l); omega
  rw [hps] at hno hc
  obtain ⟨k0, ns, hk0, hnl, hpre, hbad⟩ := rnL_none hno
  have hat : ∀ k (h : k < k0) (h' : k < ns.length), rnO (ps[k]'(by omega)) = some ns[k] := fun k h h' => by
    have h3 := congrArg (fun x => x[k]?) hpre
    rw [List.getElem?_map, List.getElem?_map, List.getElem?_take, if_pos h, List.getElem?_eq_getElem (show k < ps.length by omega), List.getElem?_eq_getElem h', Option.map_some, Option.map_some] at h3
    exact Option.some.inj h3
  have hatH := Lib.hid hat
  have hpcH := Lib.hid hpc
  have hbadH := Lib.hid hbad
  have hk1 : k0 + 1 ≤ ps.length := hk0
  have hn1 : ns.length ≤ k0 := by omega
  have hn2 : k0 ≤ ns.length := by omega
  clear hno hpre hat hpc hps hbad
  go_enter Tryd.func66, Tryd.ntmps66
  go_wp2_with fail
  (with_reducible refine hc.mono ?_)
  rintro e w1 ⟨rfl, hk2, hb1⟩
  have s1 := hb1.size
  have hS1 := hS.st hb1
  clear hc
  go_wp2_with fail
  go_loopw [6, 15] (fun v i wr => ∃ k : Nat, k ≤ k0 ∧ i = .int .i64 k ∧ Own wr w1.heap.size wr.heap.size v (ns.take k) ∧ Below w1.heap.size w1 wr) (fun _ i _ => ps.length - (intOf i).toNat)
  case atStart => exact ⟨0, Nat.zero_le _, rfl, Own.nil, Below.refl _ _⟩
  case round =>
    obtain ⟨k, hk, rfl, hown, hbr⟩ := hrel
    have hszr := hbr.size
    obtain ⟨Av, cv, hv, -, -⟩ := hown.rd
    have htk0 : (ns.take k).length = k := by rw [List.length_take]; omega
    rw [htk0] at hv
    subst hv
    have hlt : k < ps.length := by omega
    have x0 : wr.cell? ⟨w.heap.size, k, none⟩ = some (.string (str ps[k])) := by rw [(hk2.st hbr).cell k]; simp [hlt]
    have hpl := hpcH.out ps[k] (List.getElem_mem hlt)
    have hSr := hS1.st hbr
    by_cases hlt0 : k < k0
    · have hlt2 : k < ns.length := by omega
      have hrn := Lib.hid (hatH.out k hlt0 hlt2)
      have htk := Lib.hid (List.take_succ_eq_append_getElem hlt2)
      go_wp2_with fail
      (with_reducible refine (readNumber_some ps[k] _ hpl hSr ns[k] hrn.out).mono ?_)
      rintro e w2 ⟨rfl, hb2⟩
      have s2 := hb2.size
      have hown2 := hown.st hb2
      have hO := Lib.hid (hown2.mono (Nat.le_refl _) s2)
      have hB2 := Lib.hid (hbr.trans (hb2.mono hszr))
      have htkH := Lib.hid htk0
      clear htk0
      clear hown hown2 hb2 hbr x0 hSr
      go_wp2_with (at_builtin; refine wp_append_ints rfl (.tmp 26) (.tmp 28) rfl rfl (hO.out.alloc _) (ys := [ns[k]]) rfl ((Rd.one w2 _ _ _ rfl).mono (Nat.zero_le _) (by simp)) (by rw [htkH.out]; simp; omega) (by simp; omega) ?_; intro v3 w3 hown3 hg3 hb3 hat3)
      have hO3 := Lib.hid (show Own w3 w1.heap.size w3.heap.size v3 (ns.take (k + 1)) by rw [htk.out]; exact hown3)
      have hB3 := Lib.hid ((hB2.out.alloc (by omega) _).trans hb3)
      clear hown3 hg3 hb3 hat3
      go_roundw
      case rel => exact ⟨k + 1, by omega, by go_num, hO3.out, hB3.out⟩
      case measure => simp [intOf]; omega
    · obtain rfl : k = k0 := by omega
      have hB := Lib.hid (hb1.trans (hbr.mono s1))
      clear hown hbr htk0
      go_wp2_with fail
      (with_reducible refine (readNumber_none ps[k] _ hpl hSr hbadH.out).mono ?_)
      rintro e w2 ⟨rfl, hb2⟩
      have hB2 := hB.out.trans (hb2.mono (by omega))
      go_wp2_with fail
      go_ret2
      exact ⟨rfl, hB2⟩
theorem splitNumbers_yes (l : List UInt8) (b : UInt8) (w : World) (hl : l.length ≤ 1048577) (hS : Sen w) (ns : List Int) (h : rnL (splitL b l) = some ns) :
    Calls Tryd.prog 66 #[.string (str l), .string { data := #[b] }] w fun e w' => ∃ A c, e = .returned (.tuple #[.slice A ns.length c, .bool true]) ∧ Own w' w.heap.size w'.heap.size (.slice A ns.length c) ns ∧ Below w.heap.size w w' :=
  (splitNumbers_some l b w hl hS ns (rnL_some h)).mono fun e w' ⟨v, he, ho, hb⟩ => by
    obtain ⟨A, c, rfl, _, _⟩ := ho.rd
    exact ⟨A, c, he, ho, hb⟩
end Go.Proofs.YtaoobcjannbnjaaDoor
