/-
  Contracts and plain laws that the walk uses, several texts in one. The conditions are named ahead of each.
-/
import Derived.Test.YtjhbffndiaggmaaGreatDoorPureR
import Derived.Test.YtjhbffndiaggmaaGreatDoorZLRead
import Derived.Test.YtjhbffndiaggmaaGreatDoorBL28
import Derived.Test.YtjhbffndiaggmaaGreatDoorZLKbText
import Derived.Test.YtjhbffndiaggmaaGreatDoorZLSeText

/-
  Reading the texts of key books and secrets: plain laws. A text is read exactly if it is the text of what is read. No function of the program stands here.
-/
namespace Go.Proofs.YtjhbffndiaggmaaGreatDoor
set_option linter.unusedVariables false
set_option linter.unusedSimpArgs false

/-! ### one number -/
def natTo (acc : Nat) (l : List UInt8) : Nat := l.foldl (fun n x => 10 * n + (x.toNat - 48)) acc
theorem natTo_ge : ∀ (l : List UInt8) (acc : Nat), acc ≤ natTo acc l
  | [], acc => Nat.le_refl _
  | c :: r, acc => by
    have := natTo_ge r (10 * acc + (c.toNat - 48))
    unfold natTo at *
    rw [List.foldl_cons]
    omega
theorem parse_digits : ∀ (l : List UInt8) (acc : Nat), (∀ x ∈ l, 48 ≤ x.toNat ∧ x.toNat ≤ 57) → natTo acc l < 1844674407370955162 → Lib.parseUint10 acc l = .ok (natTo acc l)
  | [], acc, _, _ => rfl
  | c :: r, acc, h, hb => by
    have hc := h c (by simp)
    have e : natTo acc (c :: r) = natTo (10 * acc + (c.toNat - 48)) r := rfl
    rw [e] at hb ⊢
    have := natTo_ge r (10 * acc + (c.toNat - 48))
    unfold Lib.parseUint10
    rw [if_pos hc, if_neg (by omega), if_neg (by omega), Nat.mul_comm acc 10]
    exact parse_digits r _ (fun x hx => h x (by simp [hx])) hb
theorem natTo_int : ∀ (l : List UInt8) (acc : Nat), (∀ x ∈ l, 48 ≤ x.toNat ∧ x.toNat ≤ 57) → ((natTo acc l : Nat) : Int) = l.foldl (fun n x => 10 * n + ((x.toNat : Int) - 48)) (acc : Int)
  | [], acc, _ => rfl
  | c :: r, acc, h => by
    have hc := h c (by simp)
    have e : natTo acc (c :: r) = natTo (10 * acc + (c.toNat - 48)) r := rfl
    rw [e, natTo_int r _ (fun x hx => h x (by simp [hx])), List.foldl_cons]
    congr 1
    omega
theorem numS_dig {n : Int} (h0 : 0 ≤ n) (h1 : n ≤ 1000000000000000000) : ∀ x ∈ numS n, 48 ≤ x.toNat ∧ x.toNat ≤ 57 := numS_mem 18 n h0 (by omega)
theorem numS_val {n : Int} (h0 : 0 ≤ n) (h1 : n ≤ 1000000000000000000) : valTo (numS n) = n := valTo_num 18 n h0 (by omega)
theorem numS_ne {n : Int} (h0 : 0 ≤ n) : numS n ≠ [] := fun e => by
  have := numS_pos h0
  rw [e] at this
  simp at this
theorem rnO_num {n : Int} (h0 : 0 ≤ n) (h1 : n ≤ 1000000000000000000) : rnO (numS n) = some n := by
  have hd := numS_dig h0 h1
  have hv : ((natTo 0 (numS n) : Nat) : Int) = n := (natTo_int (numS n) 0 hd).trans (numS_val h0 h1)
  have hp : Lib.parseMag (numS n) = .ok (natTo 0 (numS n)) := by
    unfold Lib.parseMag
    rw [if_neg (numS_ne h0)]
    exact parse_digits _ 0 hd (by omega)
  have ha : Lib.atoiAll (numS n) = .ok n := by
    cases hs : numS n with
    | nil => exact absurd hs (numS_ne h0)
    | cons c r =>
      have hc := hd c (by rw [hs]; simp)
      rw [hs] at hp hv
      rw [Lib.atoiAll_plain c r (by omega) (by omega), hp]
      show (if 9223372036854775808 ≤ natTo 0 (c :: r) then Lib.NumEnd.range else Lib.NumEnd.ok ((natTo 0 (c :: r) : Nat) : Int)) = _
      rw [if_neg (by omega), hv]
  unfold rnO
  rw [ha]
  simp [h0]
theorem rnO_nil : rnO [] = none := rfl
theorem rnO_le {l : List UInt8} {v : Int} (h : rnO l = some v) : 0 ≤ v ∧ v ≤ 9223372036854775807 := ⟨(rnO_some h).2.1, (Lib.atoiAll_bounds (rnO_some h).1).2⟩
theorem digB_of {x : UInt8} (h : 48 ≤ x.toNat ∧ x.toNat ≤ 57) : digB x = true := by simpa [digB] using h
theorem kyR_num {n : Int} (h0 : 0 ≤ n) (h1 : n ≤ 1000000000000000000) : kyR (numS n) = n := by
  unfold kyR
  rw [if_pos (List.all_eq_true.2 fun x hx => digB_of (numS_dig h0 h1 x hx))]
  exact numS_val h0 h1
theorem numS_head : ∀ (k : Nat) (n : Int), 1 ≤ n → n < 10 ^ (k + 1) → (numS n).getD 0 0 ≠ 48 := by
  intro k
  induction k with
  | zero =>
    intro n h0 h1 he
    have h3 : n < 10 := by simpa using h1
    rw [numS_lt (by omega) h3] at he
    simp only [List.getD_cons_zero] at he
    have := congrArg UInt8.toNat he
    simp only [UInt8.toNat_ofNat'] at this
    have e48 : (48 : UInt8).toNat = 48 := rfl
    omega
  | succ k ih =>
    intro n h0 h1
    by_cases h3 : n < 10
    · intro he
      rw [numS_lt (by omega) h3] at he
      simp only [List.getD_cons_zero] at he
      have := congrArg UInt8.toNat he
      simp only [UInt8.toNat_ofNat'] at this
      have e48 : (48 : UInt8).toNat = 48 := rfl
      omega
    · have : (10 : Int) ^ (k + 1 + 1) = 10 ^ (k + 1) * 10 := by rw [Int.pow_succ]
      have h4 := ih (n / 10) (by omega) (by omega)
      rw [numS_ge (by omega)]
      cases hs : numS (n / 10) with
      | nil => exact absurd hs (numS_ne (by omega))
      | cons c r => rw [hs] at h4; simpa using h4
theorem l1R_num {n : Int} (h0 : 0 ≤ n) (h1 : n < 1000000) : l1R (numS n) = n := by
  have hl : (numS n).length ≤ 6 := by rw [numS_digits h0]; exact decDigits_le 5 n.toNat (by omega)
  have hp := numS_pos h0
  have hc : ¬ ((numS n).getD 0 0 = 48 ∧ 1 < (numS n).length) := by
    rintro ⟨he, h2⟩
    by_cases hz : n < 1
    · obtain rfl : n = 0 := by omega
      rw [numS_lt (by omega) (by omega)] at h2
      simp at h2
    · exact numS_head 5 n (by omega) (by omega) he
  unfold l1R
  rw [if_pos ⟨inB_t (by omega), hc⟩, kyR_num h0 (by omega)]

/-! ### several -/
def rnL : List (List UInt8) → Option (List Int)
  | [] => some []
  | p :: ps => match rnO p, rnL ps with
    | some n, some ns => some (n :: ns)
    | _, _ => none
theorem rnL_some : ∀ {ps : List (List UInt8)} {ns : List Int}, rnL ps = some ns → ps.map rnO = ns.map some
  | [], ns, h => by obtain rfl := Option.some.inj h; rfl
  | p :: ps, ns, h => by
    unfold rnL at h
    split at h
    · rename_i n ns' h1 h2
      obtain rfl := Option.some.inj h
      rw [List.map_cons, List.map_cons, h1, rnL_some h2]
    · cases h
theorem rnL_none : ∀ {ps : List (List UInt8)}, rnL ps = none → ∃ (k : Nat) (ns : List Int) (h : k < ps.length), ns.length = k ∧ (ps.take k).map rnO = ns.map some ∧ rnO ps[k] = none
  | [], h => by cases h
  | p :: ps, h => by
    cases hp : rnO p with
    | none => exact ⟨0, [], by simp, rfl, rfl, by simpa using hp⟩
    | some n =>
      cases hs : rnL ps with
      | some ns => simp [rnL, hp, hs] at h
      | none =>
        obtain ⟨k, ns, hk, hl, hm, he⟩ := rnL_none hs
        exact ⟨k + 1, n :: ns, by simp; omega, by simp [hl], by rw [List.take_succ_cons, List.map_cons, List.map_cons, hp, hm], by simpa using he⟩
theorem rnL_num : ∀ {l : List Int}, (∀ n ∈ l, 0 ≤ n ∧ n ≤ 1000000000000000000) → rnL (l.map numS) = some l
  | [], _ => rfl
  | n :: l, h => by
    have hn := h n (by simp)
    rw [List.map_cons, rnL, rnO_num hn.1 hn.2, rnL_num fun x hx => h x (by simp [hx])]
theorem rnL_text {b : UInt8} {s : List UInt8} {ns : List Int} (h : rnL (splitL b s) = some ns) : s = joinS ns [b] ∧ ns ≠ [] ∧ ∀ n ∈ ns, 0 ≤ n ∧ n ≤ 9223372036854775807 := by
  have h1 := rnL_some h
  have h2 : splitL b s = ns.map numS := by
    refine List.ext_getElem (by simpa using congrArg List.length h1) fun k hk1 hk2 => ?_
    have hk3 : k < ns.length := by simpa using hk2
    have h3 := congrArg (fun x => x[k]?) h1
    simp only [List.getElem?_map, List.getElem?_eq_getElem hk1, List.getElem?_eq_getElem hk3, Option.map_some, Option.some.injEq] at h3
    rw [List.getElem_map]
    exact (rnO_some h3).2.2.symm
  refine ⟨by rw [← join_splitL b s, h2]; rfl, fun e => ?_, fun n hn => ?_⟩
  · subst e; exact splitL_ne b s h2
  · obtain ⟨k, hk, rfl⟩ := List.getElem_of_mem hn
    have hk1 : k < (splitL b s).length := by rw [h2]; simpa using hk
    have h3 := congrArg (fun x => x[k]?) h1
    simp only [List.getElem?_map, List.getElem?_eq_getElem hk1, List.getElem?_eq_getElem hk, Option.map_some, Option.some.injEq] at h3
    exact rnO_le h3
theorem rnL_join {b : UInt8} (hb : b.toNat < 48) {l : List Int} (h0 : l ≠ []) (h : ∀ n ∈ l, 0 ≤ n ∧ n ≤ 1000000000000000000) : rnL (splitL b (joinS l [b])) = some l := by
  rw [splitL_joinS hb l h0 fun n hn => by have := h n hn; omega, rnL_num h]

/-! ### a text cut at a byte -/
def cutA (b : UInt8) (s : List UInt8) : List UInt8 := (Lib.cut s [b]).1
def cutB (b : UInt8) (s : List UInt8) : List UInt8 := (Lib.cut s [b]).2.1
theorem cut_free {b : UInt8} {s : List UInt8} (h : b ∉ s) : cutA b s = s ∧ cutB b s = [] := by
  unfold cutA cutB Lib.cut
  rw [index_free h, if_neg (by omega)]
  exact ⟨rfl, rfl⟩
theorem cut_sep {b : UInt8} {p : List UInt8} (r : List UInt8) (h : b ∉ p) : cutA b (p ++ b :: r) = p ∧ cutB b (p ++ b :: r) = r := by
  unfold cutA cutB Lib.cut
  rw [index_sep r h, if_pos (by omega)]
  constructor <;> simp
theorem cut_len (b : UInt8) (s : List UInt8) : (cutA b s).length ≤ s.length ∧ (cutB b s).length ≤ s.length := by
  by_cases h : b ∈ s
  · obtain ⟨p, r, rfl, hp⟩ := List.eq_append_cons_of_mem h
    rw [(cut_sep r hp).1, (cut_sep r hp).2]
    simp; omega
  · rw [(cut_free h).1, (cut_free h).2]; simp
/-- a byte that is no digit and not the joining one does not lie in a joined text -/
theorem joinS_free {b c : UInt8} (hc : ¬ c = b) (hb : c.toNat < 48 ∨ 57 < c.toNat) {l : List Int} (h : ∀ n ∈ l, 0 ≤ n ∧ n ≤ 1000000000000000000) : c ∉ joinS l [b] := by
  have hn : ∀ n ∈ l, c ∉ numS n := fun n hn hm => by
    have h1 := h n hn
    have := numS_dig h1.1 h1.2 c hm
    omega
  cases l with
  | nil => simp [joinS_nil]
  | cons n r =>
    unfold joinS
    rw [List.map_cons, Lib.join_cons, Lib.joinTail]
    intro hm
    rcases List.mem_append.1 hm with hm | hm
    · exact hn n (by simp) hm
    · obtain ⟨x, hx, hm⟩ := List.mem_flatten.1 hm
      obtain ⟨y, hy, rfl⟩ := List.mem_map.1 hx
      obtain ⟨m, hm2, rfl⟩ := List.mem_map.1 hy
      rcases List.mem_append.1 hm with hm | hm
      · exact hc (by simpa using hm)
      · exact hn m (by simp [hm2]) hm
theorem numS_free {c : UInt8} (hb : c.toNat < 48 ∨ 57 < c.toNat) {n : Int} (h : 0 ≤ n ∧ n ≤ 9223372036854775807) : c ∉ numS n := fun hm => by
  have := numS_mem 18 n h.1 (by omega) c hm
  omega

/-! ### key books -/
def kbX (k p : Int) (u : List Int) : List UInt8 := kbTo k p u u.length
theorem kbX_eq (k p : Int) (u : List Int) : kbX k p u = numS k ++ 32 :: joinS (p :: u) [45] := by
  unfold kbX kbTo joinS
  rw [List.take_length, List.map_cons, Lib.join_cons, Lib.joinTail, List.map_map]
  simp only [List.append_assoc, List.cons_append, List.nil_append]
  rfl
theorem kb_nums {k p : Int} {u : List Int} (h : kbB k p u = true) : (0 ≤ k ∧ k ≤ 1000000000) ∧ (1 ≤ p ∧ p ≤ 60) ∧ ∀ n ∈ u, 0 ≤ n ∧ n ≤ p - 1 := by
  simp only [kbB, Bool.and_eq_true, inB_iff, risinB] at h
  refine ⟨h.1, h.2.1, fun n hn => ?_⟩
  obtain ⟨i, hi, rfl⟩ := List.getElem_of_mem hn
  exact allB_iff.1 h.2.2.1 i hi
/-- the key book that a text holds: as the program reads it -/
def pkS (s : List UInt8) : Option (Int × Int × List Int) :=
  match rnO (cutA 32 s), rnL (splitL 45 (cutB 32 s)) with
  | some k, some (p :: u) => if kbB k p u = true then some (k, p, u) else none
  | _, _ => none
theorem pkS_text {s : List UInt8} {k p : Int} {u : List Int} (h : pkS s = some (k, p, u)) : kbB k p u = true ∧ kbX k p u = s := by
  unfold pkS at h
  split at h
  · rename_i k' p' u' h1 h2
    split at h
    · rename_i hk
      simp only [Option.some.injEq, Prod.mk.injEq] at h
      obtain ⟨rfl, rfl, rfl⟩ := h
      refine ⟨hk, ?_⟩
      by_cases hm : (32 : UInt8) ∈ s
      · obtain ⟨a, r, rfl, ha⟩ := List.eq_append_cons_of_mem hm
        rw [(cut_sep r ha).1] at h1
        rw [(cut_sep r ha).2] at h2
        rw [kbX_eq, (rnO_some h1).2.2, ← (rnL_text h2).1]
      · rw [(cut_free hm).2] at h2
        simp [splitL, rnL, rnO_nil] at h2
    · cases h
  · cases h
theorem kbX_cut {k p : Int} {u : List Int} (h : kbB k p u = true) : cutA 32 (kbX k p u) = numS k ∧ cutB 32 (kbX k p u) = joinS (p :: u) [45] := by
  obtain ⟨h1, h2, h3⟩ := kb_nums h
  rw [kbX_eq]
  exact cut_sep _ (numS_free (.inl (by decide)) ⟨h1.1, by omega⟩)
theorem kb_ns {k p : Int} {u : List Int} (h : kbB k p u = true) : ∀ n ∈ p :: u, 0 ≤ n ∧ n ≤ 60 := by
  obtain ⟨h1, h2, h3⟩ := kb_nums h
  intro n hn
  rcases List.mem_cons.1 hn with rfl | hn
  · omega
  · have := h3 n hn; omega
theorem pkS_of {k p : Int} {u : List Int} (h : kbB k p u = true) : pkS (kbX k p u) = some (k, p, u) := by
  obtain ⟨h1, h2, h3⟩ := kb_nums h
  unfold pkS
  rw [(kbX_cut h).1, (kbX_cut h).2, rnO_num h1.1 (by omega), rnL_join (by decide) (by simp) fun n hn => by have := kb_ns h n hn; omega]
  simp [h]
/-- the reference's reading -/
theorem pk_two {s : List UInt8} (h : (splitL 32 s).length ≠ 2) : pkS s = none := by
  cases hs : pkS s with
  | none => rfl
  | some x =>
    obtain ⟨k, p, u⟩ := x
    obtain ⟨hk, rfl⟩ := pkS_text hs
    obtain ⟨h1, h2, h3⟩ := kb_nums hk
    rw [kbX_eq, splitL_sep _ (numS_free (.inl (by decide)) ⟨h1.1, by omega⟩), splitL_free (joinS_free (by decide) (.inl (by decide)) fun n hn => by have := kb_ns hk n hn; omega)] at h
    exact absurd rfl h
theorem kbX_split {k p : Int} {u : List Int} (h : kbB k p u = true) : splitL 32 (kbX k p u) = [numS k, joinS (p :: u) [45]] := by
  obtain ⟨h1, h2, h3⟩ := kb_nums h
  rw [kbX_eq, splitL_sep _ (numS_free (.inl (by decide)) ⟨h1.1, by omega⟩), splitL_free (joinS_free (by decide) (.inl (by decide)) fun n hn => by have := kb_ns h n hn; omega)]
theorem pk_head {s a r : List UInt8} (hs : splitL 32 s = [a, r]) (h : inB (a.length : Int) 1 10 = false) : pkS s = none := by
  cases hp : pkS s with
  | none => rfl
  | some x =>
    obtain ⟨k, p, u⟩ := x
    obtain ⟨hk, rfl⟩ := pkS_text hp
    obtain ⟨h1, h2, h3⟩ := kb_nums hk
    rw [kbX_split hk] at hs
    simp only [List.cons.injEq, and_true] at hs
    obtain ⟨rfl, _⟩ := hs
    have hl : (numS k).length ≤ 10 := by rw [numS_digits h1.1]; exact decDigits_le 9 k.toNat (by omega)
    have hp := numS_pos h1.1
    rw [inB_t (by omega)] at h
    cases h
theorem map_l1R {l : List Int} (h : ∀ n ∈ l, 0 ≤ n ∧ n < 1000000) : (l.map numS).map l1R = l := by
  rw [List.map_map]
  conv => rhs; rw [← List.map_id l]
  exact List.map_congr_left fun n hn => l1R_num (h n hn).1 (h n hn).2
theorem pk_read {s a r n0 : List UInt8} {ns : List (List UInt8)} (hs : splitL 32 s = [a, r]) (hn : splitL 45 r = n0 :: ns) :
    pkS s = if kbB (kyR a) (l1R n0) (ns.map l1R) = true ∧ kbX (kyR a) (l1R n0) (ns.map l1R) = s then some (kyR a, l1R n0, ns.map l1R) else none := by
  split
  · rename_i h
    conv => lhs; rw [← h.2]
    exact pkS_of h.1
  · rename_i h
    cases hp : pkS s with
    | none => rfl
    | some x =>
      obtain ⟨k, p, u⟩ := x
      obtain ⟨hk, rfl⟩ := pkS_text hp
      obtain ⟨h1, h2, h3⟩ := kb_nums hk
      rw [kbX_split hk] at hs
      simp only [List.cons.injEq, and_true] at hs
      obtain ⟨rfl, rfl⟩ := hs
      rw [splitL_joinS (by decide) _ (by simp) fun n hn => by have := kb_ns hk n hn; omega, List.map_cons] at hn
      simp only [List.cons.injEq] at hn
      obtain ⟨rfl, rfl⟩ := hn
      have e1 := map_l1R (l := u) fun n hn => by have := kb_ns hk n (by simp [hn]); omega
      rw [kyR_num h1.1 (by omega), l1R_num (by omega) (by omega), e1] at h
      exact absurd ⟨hk, rfl⟩ h
def pkB (s : List UInt8) : Bool := (pkS s).isSome
def pkK (s : List UInt8) : Int := match pkS s with | some x => x.1 | none => 0
def pkP (s : List UInt8) : Int := match pkS s with | some x => x.2.1 | none => 0
def pkL (s : List UInt8) : List Int := match pkS s with | some x => x.2.2 | none => []
theorem pk_some {s : List UInt8} {k p : Int} {u : List Int} (h : pkS s = some (k, p, u)) : pkB s = true ∧ pkK s = k ∧ pkP s = p ∧ pkL s = u := by simp [pkB, pkK, pkP, pkL, h]
theorem pk_none {s : List UInt8} (h : pkS s = none) : pkB s = false ∧ pkK s = 0 ∧ pkP s = 0 ∧ pkL s = [] := by simp [pkB, pkK, pkP, pkL, h]

/-! ### secrets -/
theorem sc_nil {y z : List Int} (h : scB y z = true) : y = [] ↔ z = [] := by
  simp only [scB, Bool.and_eq_true, decide_eq_true_eq] at h
  have h1 : (y.length : Int) = ((z.length : Int) + 20 - 1) / 20 := h.2.2.1
  constructor
  · rintro rfl
    refine List.eq_nil_of_length_eq_zero ?_
    simp only [List.length_nil] at h1
    omega
  · rintro rfl
    refine List.eq_nil_of_length_eq_zero ?_
    simp only [List.length_nil] at h1
    omega
theorem sb_eq (y z : List Int) : sb y z = joinS y [43] ++ 58 :: joinS z [32] := by unfold sb sa; simp
/-- the secret that a text holds: as the program reads it -/
def psS (s : List UInt8) : Option (List Int × List Int) :=
  if s = [58] then some ([], []) else
  match rnL (splitL 43 (cutA 58 s)), rnL (splitL 32 (cutB 58 s)) with
  | some y, some z => if scB y z = true then some (y, z) else none
  | _, _ => none
theorem psS_text {s : List UInt8} {y z : List Int} (h : psS s = some (y, z)) : scB y z = true ∧ sb y z = s := by
  unfold psS at h
  split at h
  · rename_i hs
    simp only [Option.some.injEq, Prod.mk.injEq] at h
    obtain ⟨rfl, rfl⟩ := h
    subst hs
    exact ⟨by decide +kernel, by decide⟩
  · split at h
    · rename_i y' z' h1 h2
      split at h
      · rename_i hk
        simp only [Option.some.injEq, Prod.mk.injEq] at h
        obtain ⟨rfl, rfl⟩ := h
        refine ⟨hk, ?_⟩
        by_cases hm : (58 : UInt8) ∈ s
        · obtain ⟨a, r, rfl, ha⟩ := List.eq_append_cons_of_mem hm
          rw [(cut_sep r ha).1] at h1
          rw [(cut_sep r ha).2] at h2
          rw [sb_eq, ← (rnL_text h1).1, ← (rnL_text h2).1]
        · rw [(cut_free hm).2] at h2
          simp [splitL, rnL, rnO_nil] at h2
      · cases h
    · cases h
theorem sb_free {y z : List Int} (h : scB y z = true) : (58 : UInt8) ∉ joinS y [43] ∧ (58 : UInt8) ∉ joinS z [32] := by
  obtain ⟨_, h2, h3⟩ := sc_factsT h
  exact ⟨joinS_free (by decide) (.inr (by decide)) fun n hn => by have := h3 n hn; omega, joinS_free (by decide) (.inr (by decide)) fun n hn => by have := h2 n hn; omega⟩
theorem joinS_ne {l : List Int} {sep : List UInt8} (h : l ≠ []) (h0 : ∀ n ∈ l, 0 ≤ n) : joinS l sep ≠ [] := by
  cases l with
  | nil => exact absurd rfl h
  | cons n r =>
    unfold joinS
    rw [List.map_cons, Lib.join_cons]
    intro e
    exact numS_ne (h0 n (by simp)) (List.append_eq_nil_iff.1 e).1
theorem psS_of {y z : List Int} (h : scB y z = true) : psS (sb y z) = some (y, z) := by
  obtain ⟨_, h2, h3⟩ := sc_factsT h
  obtain ⟨f1, f2⟩ := sb_free h
  by_cases hy : y = []
  · have hz := (sc_nil h).1 hy
    subst hy hz
    decide
  · have hz : z ≠ [] := fun e => hy ((sc_nil h).2 e)
    have hne : sb y z ≠ [58] := fun e => by
      have := congrArg List.length e
      rw [sb_eq] at this
      have h4 : 0 < (joinS y [43]).length := List.length_pos_iff.2 (joinS_ne hy fun n hn => (h3 n hn).1)
      simp at this
      omega
    unfold psS
    rw [if_neg hne, sb_eq, (cut_sep _ f1).1, (cut_sep _ f1).2, rnL_join (by decide) hy fun n hn => by have := h3 n hn; omega, rnL_join (by decide) hz fun n hn => by have := h2 n hn; omega]
    simp [h]
theorem sb_split {y z : List Int} (h : scB y z = true) : splitL 58 (sb y z) = [joinS y [43], joinS z [32]] := by
  obtain ⟨f1, f2⟩ := sb_free h
  rw [sb_eq, splitL_sep _ f1, splitL_free f2]
theorem ps_two {s : List UInt8} (h : (splitL 58 s).length ≠ 2) : psS s = none := by
  cases hs : psS s with
  | none => rfl
  | some x =>
    obtain ⟨y, z⟩ := x
    obtain ⟨hk, rfl⟩ := psS_text hs
    rw [sb_split hk] at h
    exact absurd rfl h
/-- the numbers of a part of a secret's text, as the reference reads them -/
def l1L (b : UInt8) (s : List UInt8) : List Int := if s = [] then [] else (splitL b s).map l1R
theorem l1L_join {b : UInt8} (hb : b.toNat < 48) {l : List Int} (h : ∀ n ∈ l, 0 ≤ n ∧ n < 1000000) : l1L b (joinS l [b]) = l := by
  by_cases hl : l = []
  · subst hl; rfl
  · unfold l1L
    rw [if_neg (joinS_ne hl fun n hn => (h n hn).1), splitL_joinS hb l hl fun n hn => by have := h n hn; omega, map_l1R h]
theorem ps_read {s a r : List UInt8} (hs : splitL 58 s = [a, r]) :
    psS s = if scB (l1L 43 a) (l1L 32 r) = true ∧ sb (l1L 43 a) (l1L 32 r) = s then some (l1L 43 a, l1L 32 r) else none := by
  split
  · rename_i h
    conv => lhs; rw [← h.2]
    exact psS_of h.1
  · rename_i h
    cases hp : psS s with
    | none => rfl
    | some x =>
      obtain ⟨y, z⟩ := x
      obtain ⟨hk, rfl⟩ := psS_text hp
      obtain ⟨_, h2, h3⟩ := sc_factsT hk
      rw [sb_split hk] at hs
      simp only [List.cons.injEq, and_true] at hs
      obtain ⟨rfl, rfl⟩ := hs
      rw [l1L_join (by decide) fun n hn => by have := h3 n hn; omega, l1L_join (by decide) fun n hn => by have := h2 n hn; omega] at h
      exact absurd ⟨hk, rfl⟩ h
def psB (s : List UInt8) : Bool := (psS s).isSome
def psP (s : List UInt8) : List Int := match psS s with | some x => x.1 | none => []
def psL (s : List UInt8) : List Int := match psS s with | some x => x.2 | none => []
theorem ps_some {s : List UInt8} {y z : List Int} (h : psS s = some (y, z)) : psB s = true ∧ psP s = y ∧ psL s = z := by simp [psB, psP, psL, h]
theorem ps_none {s : List UInt8} (h : psS s = none) : psB s = false ∧ psP s = [] ∧ psL s = [] := by simp [psB, psP, psL, h]
end Go.Proofs.YtjhbffndiaggmaaGreatDoor

/-
  Contract of the program's reading of joined numbers, both ways. The conditions are bounds on lengths, and the library's variables.
-/
namespace Go.Proofs.YtjhbffndiaggmaaGreatDoor
open Go.RowKit Go.ChangeShapes Go.WideShapes
set_option linter.unusedVariables false
set_option linter.unusedSimpArgs false

theorem split_call (b : UInt8) (l : List UInt8) (w : World) (hl : l.length ≤ 1048577) (hS : Sen w) :
    Calls Tryz.prog 132 #[.string (str l), .string { data := #[b] }] w fun e w' => e = .returned (.slice (some ⟨w.heap.size, 0, none⟩) (splitL b l).length (splitL b l).length) ∧ Bk w' w.heap.size 9 ((splitL b l).map fun p => Value.string (str p)).toArray ∧ Below w.heap.size w w' := by
  obtain ⟨m, hm⟩ := hS.len
  obtain ⟨h1, h2⟩ := split_pieces b l
  refine (Tryz.strings_Split (str l) (str [b]) m w (by rw [str_size]; omega) hm (by rw [str_size]; simp)).mono ?_
  rintro e w' ⟨rfl, rfl⟩
  rw [h2, h1, splitL_length, List.map_map]
  exact ⟨rfl, Bk.new w _ _, (Below.refl _ _).alloc (Nat.le_refl _) _⟩
theorem splitL_piece_le (b : UInt8) : ∀ (l : List UInt8), ∀ p ∈ splitL b l, p.length ≤ l.length := by
  intro l
  induction l with
  | nil => intro p hp; simp [splitL] at hp; subst hp; exact Nat.le_refl _
  | cons x r ih =>
    intro p hp
    rw [splitL] at hp
    split at hp
    · rcases List.mem_cons.1 hp with rfl | hp
      · simp
      · have := ih p hp; rw [List.length_cons]; omega
    · cases hs : splitL b r with
      | nil => exact absurd hs (splitL_ne b r)
      | cons h t =>
        rw [hs] at hp ih
        rcases List.mem_cons.1 hp with rfl | hp
        · have := ih h List.mem_cons_self; simp only [List.length_cons]; omega
        · have := ih p (List.mem_cons_of_mem _ hp); rw [List.length_cons]; omega
set_option maxRecDepth 100000 in
set_option maxHeartbeats 4000000 in
theorem splitNumbers_some (l : List UInt8) (b : UInt8) (w : World) (hl : l.length ≤ 1048577) (hS : Sen w) (ns : List Int) (hns : (splitL b l).map rnO = ns.map some) :
    Calls Tryz.prog 84 #[.string (str l), .string { data := #[b] }] w fun e w' => ∃ v, e = .returned (.tuple #[v, .bool true]) ∧ Own w' w.heap.size w'.heap.size v ns ∧ Below w.heap.size w w' := by
  obtain ⟨ps, hps⟩ : ∃ ps, ps = splitL b l := ⟨_, rfl⟩
  have hc := split_call b l w (by omega) hS
  have hlen : ps.length = ns.length := by have := congrArg List.length hns; rw [hps]; simpa using this
  have hle : ps.length ≤ 1048578 := by rw [hps, splitL_length]; have := List.count_le_length (a := b) (l := l); omega
  have hpc : ∀ p ∈ ps, p.length ≤ 1048577 := fun p hp => by have := splitL_piece_le b l p (by rw [← hps]; exact hp); omega
  have hat : ∀ k (h : k < ps.length) (h' : k < ns.length), rnO ps[k] = some ns[k] := fun k h h' => by
    have h3 := congrArg (fun x => x[k]?) hns
    simp only [← hps, List.getElem?_map, List.getElem?_eq_getElem h, List.getElem?_eq_getElem h', Option.map_some, Option.some.injEq] at h3
    exact h3
  rw [← hps] at hc
  have hatH := Lib.hid hat
  have hpcH := Lib.hid hpc
  clear hns hat hpc hps
  go_enter Tryz.func84, Tryz.ntmps84
  go_wp2_with fail
  (with_reducible refine hc.mono ?_)
  rintro e w1 ⟨rfl, hk1, hb1⟩
  have s1 := hb1.size
  have hS1 := hS.st hb1
  clear hc
  go_wp2_with fail
  go_loopw [6, 15] (fun v i wr => ∃ k : Nat, k ≤ ns.length ∧ i = .int .i64 k ∧ Own wr w1.heap.size wr.heap.size v (ns.take k) ∧ Below w1.heap.size w1 wr) (fun _ i _ => ps.length - (intOf i).toNat)
  case atStart => exact ⟨0, Nat.zero_le _, rfl, Own.nil, Below.refl _ _⟩
  case round =>
    obtain ⟨k, hk, rfl, hown, hbr⟩ := hrel
    have hszr := hbr.size
    obtain ⟨Av, cv, hv, -, -⟩ := hown.rd
    have htk0 : (ns.take k).length = k := by rw [List.length_take]; omega
    rw [htk0] at hv
    subst hv
    by_cases hlt : k < ps.length
    · have hlt2 : k < ns.length := by omega
      have x0 : wr.cell? ⟨w.heap.size, k, none⟩ = some (.string (str ps[k])) := by rw [(hk1.st hbr).cell k]; simp [hlt]
      have hrn := Lib.hid (hatH.out k hlt hlt2)
      have hpl := hpcH.out ps[k] (List.getElem_mem hlt)
      have htk := Lib.hid (List.take_succ_eq_append_getElem hlt2)
      have hSr := hS1.st hbr
      go_wp2_with fail
      (with_reducible refine (readNumber_some ps[k] _ hpl hSr ns[k] hrn.out).mono ?_)
      rintro e w2 ⟨rfl, hb2⟩
      have s2 := hb2.size
      have hown2 := hown.st hb2
      have hO := Lib.hid (hown2.mono (Nat.le_refl _) s2)
      have hB2 := Lib.hid (hbr.trans (hb2.mono hszr))
      have htkH := Lib.hid htk0
      clear htk0
      clear hown hown2 hb2 hbr x0 hSr
      go_wp2_with (at_builtin; refine wp_append_ints rfl (.tmp 26) (.tmp 28) rfl rfl (hO.out.alloc _) (ys := [ns[k]]) rfl ((Rd.one w2 _ _ _ rfl).mono (Nat.zero_le _) (by simp)) (by rw [htkH.out]; simp; omega) (by simp; omega) ?_; intro v3 w3 hown3 hg3 hb3 hat3)
      have hO3 := Lib.hid (show Own w3 w1.heap.size w3.heap.size v3 (ns.take (k + 1)) by rw [htk.out]; exact hown3)
      have hB3 := Lib.hid ((hB2.out.alloc (by omega) _).trans hb3)
      clear hown3 hg3 hb3 hat3
      go_roundw
      case rel => exact ⟨k + 1, by omega, by go_num, hO3.out, hB3.out⟩
      case measure => simp [intOf]; omega
    · have hkn : k = ns.length := by omega
      have hfin : ns.take k = ns := by rw [hkn, List.take_length]
      have hB := hb1.trans (hbr.mono s1)
      have hown2 : Own wr w.heap.size wr.heap.size (.slice Av k cv) ns := by
        have h5 := hown.mono s1 (Nat.le_refl _)
        rw [hfin] at h5; exact h5
      have hH := Lib.hid hown2
      clear hown hown2 hfin hbr
      go_wp2_with fail
      go_ret2
      exact ⟨_, rfl, hH.out, hB⟩
end Go.Proofs.YtjhbffndiaggmaaGreatDoor

namespace Go.Proofs.YtjhbffndiaggmaaGreatDoor
open Go.RowKit Go.ChangeShapes Go.WideShapes
set_option linter.unusedVariables false
set_option linter.unusedSimpArgs false

set_option maxRecDepth 100000 in
set_option maxHeartbeats 4000000 in
theorem splitNumbers_none (l : List UInt8) (b : UInt8) (w : World) (hl : l.length ≤ 1048577) (hS : Sen w) (hno : rnL (splitL b l) = none) :
    Calls Tryz.prog 84 #[.string (str l), .string { data := #[b] }] w fun e w' => e = .returned (.tuple #[.slice none 0 0, .bool false]) ∧ Below w.heap.size w w' := by
  obtain ⟨ps, hps⟩ : ∃ ps, splitL b l = ps := ⟨_, rfl⟩
  have hc := split_call b l w (by omega) hS
  have hpc : ∀ p ∈ ps, p.length ≤ 1048577 := fun p hp => by have := splitL_piece_le b l p (by rw [hps]; exact hp); omega
  have hle : ps.length ≤ 1048578 := by rw [← hps, splitL_length]; have := List.count_le_length (a := b) (l := l); omega
  rw [hps] at hno hc
  obtain ⟨k0, ns, hk0, hnl, hpre, hbad⟩ := rnL_none hno
  have hat : ∀ k (h : k < k0) (h' : k < ns.length), rnO (ps[k]'(by omega)) = some ns[k] := fun k h h' => by
    have h3 := congrArg (fun x => x[k]?) hpre
    rw [List.getElem?_map, List.getElem?_map, List.getElem?_take, if_pos h, List.getElem?_eq_getElem (show k < ps.length by omega), List.getElem?_eq_getElem h', Option.map_some, Option.map_some] at h3
    exact Option.some.inj h3
  have hatH := Lib.hid hat
  have hpcH := Lib.hid hpc
  have hbadH := Lib.hid hbad
  have hk1 : k0 + 1 ≤ ps.length := hk0
  have hn1 : ns.length ≤ k0 := by omega
  have hn2 : k0 ≤ ns.length := by omega
  clear hno hpre hat hpc hps hbad
  go_enter Tryz.func84, Tryz.ntmps84
  go_wp2_with fail
  (with_reducible refine hc.mono ?_)
  rintro e w1 ⟨rfl, hk2, hb1⟩
  have s1 := hb1.size
  have hS1 := hS.st hb1
  clear hc
  go_wp2_with fail
  go_loopw [6, 15] (fun v i wr => ∃ k : Nat, k ≤ k0 ∧ i = .int .i64 k ∧ Own wr w1.heap.size wr.heap.size v (ns.take k) ∧ Below w1.heap.size w1 wr) (fun _ i _ => ps.length - (intOf i).toNat)
  case atStart => exact ⟨0, Nat.zero_le _, rfl, Own.nil, Below.refl _ _⟩
  case round =>
    obtain ⟨k, hk, rfl, hown, hbr⟩ := hrel
    have hszr := hbr.size
    obtain ⟨Av, cv, hv, -, -⟩ := hown.rd
    have htk0 : (ns.take k).length = k := by rw [List.length_take]; omega
    rw [htk0] at hv
    subst hv
    have hlt : k < ps.length := by omega
    have x0 : wr.cell? ⟨w.heap.size, k, none⟩ = some (.string (str ps[k])) := by rw [(hk2.st hbr).cell k]; simp [hlt]
    have hpl := hpcH.out ps[k] (List.getElem_mem hlt)
    have hSr := hS1.st hbr
    by_cases hlt0 : k < k0
    · have hlt2 : k < ns.length := by omega
      have hrn := Lib.hid (hatH.out k hlt0 hlt2)
      have htk := Lib.hid (List.take_succ_eq_append_getElem hlt2)
      go_wp2_with fail
      (with_reducible refine (readNumber_some ps[k] _ hpl hSr ns[k] hrn.out).mono ?_)
      rintro e w2 ⟨rfl, hb2⟩
      have s2 := hb2.size
      have hown2 := hown.st hb2
      have hO := Lib.hid (hown2.mono (Nat.le_refl _) s2)
      have hB2 := Lib.hid (hbr.trans (hb2.mono hszr))
      have htkH := Lib.hid htk0
      clear htk0
      clear hown hown2 hb2 hbr x0 hSr
      go_wp2_with (at_builtin; refine wp_append_ints rfl (.tmp 26) (.tmp 28) rfl rfl (hO.out.alloc _) (ys := [ns[k]]) rfl ((Rd.one w2 _ _ _ rfl).mono (Nat.zero_le _) (by simp)) (by rw [htkH.out]; simp; omega) (by simp; omega) ?_; intro v3 w3 hown3 hg3 hb3 hat3)
      have hO3 := Lib.hid (show Own w3 w1.heap.size w3.heap.size v3 (ns.take (k + 1)) by rw [htk.out]; exact hown3)
      have hB3 := Lib.hid ((hB2.out.alloc (by omega) _).trans hb3)
      clear hown3 hg3 hb3 hat3
      go_roundw
      case rel => exact ⟨k + 1, by omega, by go_num, hO3.out, hB3.out⟩
      case measure => simp [intOf]; omega
    · obtain rfl : k = k0 := by omega
      have hB := Lib.hid (hb1.trans (hbr.mono s1))
      clear hown hbr htk0
      go_wp2_with fail
      (with_reducible refine (readNumber_none ps[k] _ hpl hSr hbadH.out).mono ?_)
      rintro e w2 ⟨rfl, hb2⟩
      have hB2 := hB.out.trans (hb2.mono (by omega))
      go_wp2_with fail
      go_ret2
      exact ⟨rfl, hB2⟩
theorem splitNumbers_yes (l : List UInt8) (b : UInt8) (w : World) (hl : l.length ≤ 1048577) (hS : Sen w) (ns : List Int) (h : rnL (splitL b l) = some ns) :
    Calls Tryz.prog 84 #[.string (str l), .string { data := #[b] }] w fun e w' => ∃ A c, e = .returned (.tuple #[.slice A ns.length c, .bool true]) ∧ Own w' w.heap.size w'.heap.size (.slice A ns.length c) ns ∧ Below w.heap.size w w' :=
  (splitNumbers_some l b w hl hS ns (rnL_some h)).mono fun e w' ⟨v, he, ho, hb⟩ => by
    obtain ⟨A, c, rfl, _, _⟩ := ho.rd
    exact ⟨A, c, he, ho, hb⟩
end Go.Proofs.YtjhbffndiaggmaaGreatDoor
