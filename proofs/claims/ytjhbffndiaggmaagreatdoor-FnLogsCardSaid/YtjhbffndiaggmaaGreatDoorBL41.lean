/-
  Contracts and plain laws that the walk uses, several texts in one. The conditions are named ahead of each.
-/
import Derived.Test.YtjhbffndiaggmaaGreatDoorBL37
import Derived.Test.YtjhbffndiaggmaaGreatDoorZLLgText
import Derived.Test.YtjhbffndiaggmaaGreatDoorBL24

/-
  Reading the text of a log: plain laws. A text is read exactly if it is the text of what is read. No function of the program stands here.
-/
namespace Go.Proofs.YtjhbffndiaggmaaGreatDoor
set_option linter.unusedVariables false
set_option linter.unusedSimpArgs false

/-! ### a text split at ' : ' -/
def sep3 : List UInt8 := [32, 58, 32]
theorem pre3 {l : List UInt8} (h : sep3.isPrefixOf l = true) : ∃ t, l = 32 :: 58 :: 32 :: t := by
  obtain ⟨t, ht⟩ := List.isPrefixOf_iff_prefix.1 h
  exact ⟨t, ht.symm⟩
theorem idx3_free : ∀ {l : List UInt8}, (58 : UInt8) ∉ l → Lib.index l sep3 = -1
  | [], _ => rfl
  | x :: l, h => by
    have h2 := idx3_free (l := l) (fun e => h (List.mem_cons_of_mem _ e))
    unfold Lib.index
    rw [if_neg ?_, h2]
    · rfl
    · intro hp
      obtain ⟨t, ht⟩ := pre3 hp
      exact h (by rw [ht]; simp)
theorem idx3_sep : ∀ {p : List UInt8} (r : List UInt8), (58 : UInt8) ∉ p → Lib.index (p ++ 32 :: 58 :: 32 :: r) sep3 = (p.length : Int)
  | [], r, _ => by
    show Lib.index (32 :: 58 :: 32 :: r) sep3 = _
    unfold Lib.index
    rw [if_pos (by simp [List.isPrefixOf, sep3])]; rfl
  | x :: p, r, h => by
    have h2 := idx3_sep (p := p) r (fun e => h (List.mem_cons_of_mem _ e))
    show Lib.index (x :: (p ++ 32 :: 58 :: 32 :: r)) sep3 = _
    unfold Lib.index
    rw [if_neg ?_, h2, if_neg (by simp)]
    · simp
    · intro hp
      obtain ⟨t, ht⟩ := pre3 hp
      simp only [List.cons.injEq] at ht
      cases p with
      | nil =>
        have := ht.2
        simp at this
      | cons y q =>
        have := ht.2
        simp only [List.cons_append, List.cons.injEq] at this
        exact h (by rw [this.1]; simp)
def pieces3 (l : List UInt8) : List (List UInt8) := Lib.splitK sep3 0 (Lib.count l sep3) l
theorem join_splitK (sep : List UInt8) : ∀ (N : Nat) (l : List UInt8), Lib.join (Lib.splitK sep 0 N l) sep = l
  | 0, l => Lib.join_one _ _
  | N + 1, l => by
    unfold Lib.splitK
    rcases Lib.index_spec l sep with ⟨h1, _⟩ | ⟨i, h1, h2, h3, _⟩
    · rw [if_pos (beq_iff_eq.2 h1)]; exact Lib.join_one _ _
    · rw [if_neg (fun e => by have := beq_iff_eq.1 e; omega), h1]
      have ih := join_splitK sep N (l.drop ((i : Int).toNat + sep.length))
      have hne : Lib.splitK sep 0 N (l.drop ((i : Int).toNat + sep.length)) ≠ [] := by
        cases N with
        | zero => simp [Lib.splitK]
        | succ N => unfold Lib.splitK; split <;> simp
      have hocc : l.drop i = sep ++ l.drop (i + sep.length) := by
        obtain ⟨t, ht⟩ := List.isPrefixOf_iff_prefix.1 (show sep.isPrefixOf (l.drop i) = true from h3)
        have : l.drop (i + sep.length) = t := by rw [← List.drop_drop, ← ht]; simp
        rw [this, ht]
      cases hs : Lib.splitK sep 0 N (l.drop ((i : Int).toNat + sep.length)) with
      | nil => exact absurd hs hne
      | cons x r =>
        rw [hs, Lib.join_cons] at ih
        rw [Lib.join_cons]
        have e1 : Lib.joinTail sep (x :: r) = sep ++ (x ++ Lib.joinTail sep r) := by simp [Lib.joinTail]
        have e2 : (i : Int).toNat = i := by simp
        rw [e1, ih, e2, ← hocc, Nat.add_zero, List.take_append_drop]
theorem join_pieces3 (l : List UInt8) : Lib.join (pieces3 l) sep3 = l := join_splitK _ _ _
theorem pieces3_eq {a b c : List UInt8} (ha : (58 : UInt8) ∉ a) (hb : (58 : UInt8) ∉ b) (hc : (58 : UInt8) ∉ c) :
    pieces3 (a ++ 32 :: 58 :: 32 :: (b ++ 32 :: 58 :: 32 :: c)) = [a, b, c] := by
  have d1 : ∀ (p r : List UInt8), (p ++ 32 :: 58 :: 32 :: r).drop (p.length + sep3.length) = r := fun p r => by simp [sep3]
  have e1 : Lib.count (a ++ 32 :: 58 :: 32 :: (b ++ 32 :: 58 :: 32 :: c)) sep3 = 2 := by
    rw [Lib.count_hit (by simp [sep3]) (idx3_sep _ ha), d1, Lib.count_hit (by simp [sep3]) (idx3_sep _ hb), d1, Lib.count_miss (idx3_free hc)]
  unfold pieces3
  rw [e1]
  unfold Lib.splitK
  rw [if_neg (fun e => by have := beq_iff_eq.1 e; rw [idx3_sep _ ha] at this; omega), idx3_sep _ ha]
  unfold Lib.splitK
  have e2 : ((a.length : Int).toNat + sep3.length) = a.length + sep3.length := by simp
  rw [e2, d1, if_neg (fun e => by have := beq_iff_eq.1 e; rw [idx3_sep _ hb] at this; omega), idx3_sep _ hb]
  have e3 : ((b.length : Int).toNat + sep3.length) = b.length + sep3.length := by simp
  rw [e3, d1]
  simp [Lib.splitK]
theorem split3_pieces (l : List UInt8) : Lib.countB (str l) (str sep3) = Lib.count l sep3 ∧ Lib.splitB (str sep3) 0 (Lib.countB (str l) (str sep3)) (str l) = (pieces3 l).map str := by
  have h1 : Lib.countB (str l) (str sep3) = Lib.count l sep3 := by
    show Lib.count (str l).data.toList (str sep3).data.toList = _
    rw [str_toList, str_toList]
  refine ⟨h1, ?_⟩
  rw [h1]
  have h2 := Lib.splitB_data (str sep3) 0 (Lib.count l sep3) (str l)
  rw [str_toList, str_toList] at h2
  unfold pieces3
  rw [← h2, List.map_map]
  conv => lhs; rw [← List.map_id (Lib.splitB (str sep3) 0 (Lib.count l sep3) (str l))]
  exact List.map_congr_left fun s _ => (str_of s).symm
theorem pieces3_length (l : List UInt8) : (pieces3 l).length = Lib.count l sep3 + 1 := by
  have key : ∀ (n : Nat) (l : List UInt8), l.length ≤ n → (pieces3 l).length = Lib.count l sep3 + 1 := by
    intro n
    induction n with
    | zero =>
      intro l h
      have : l = [] := List.eq_nil_of_length_eq_zero (by omega)
      subst this
      rfl
    | succ n ih =>
      intro l h
      rcases Lib.index_spec l sep3 with ⟨h1, _⟩ | ⟨i, h1, h2, h3, _⟩
      · unfold pieces3; rw [Lib.count_miss h1]; rfl
      · have hc := Lib.count_hit (s := l) (sub := sep3) (by simp [sep3]) h1
        have hr := Lib.occAt_room h3
        have h4 := ih (l.drop (i + sep3.length)) (by
          rw [List.length_drop]
          rcases hr with hr | hr
          · have : sep3.length = 3 := rfl
            omega
          · exact absurd hr (by simp [sep3]))
        unfold pieces3 at h4 ⊢
        rw [hc, Nat.add_comm 1]
        unfold Lib.splitK
        rw [if_neg (fun e => by have := beq_iff_eq.1 e; omega), h1]
        have e2 : ((i : Int).toNat + sep3.length) = i + sep3.length := by simp
        rw [e2, List.length_cons, h4]
  exact key l.length l (Nat.le_refl _)

/-! ### a line, as the program reads it -/
theorem p5_eq (e : Ent) : p5 e = p1 e ++ 32 :: 58 :: 32 :: (joinS e.seen [32] ++ 32 :: 58 :: 32 :: joinS e.shown [32]) := by
  unfold p5 p4 p3 p2; simp
def lnO (l : List UInt8) : Option Ent :=
  match pieces3 l with
  | [a, b, c] => match rnL (splitL 32 a), rnL (splitL 32 b), rnL (splitL 32 c) with
    | some [t, m, p], some y, some z => some ⟨t, m, p, y, z⟩
    | _, _, _ => none
  | _ => none
theorem lnO_text {l : List UInt8} {e : Ent} (h : lnO l = some e) : p5 e = l := by
  unfold lnO at h
  split at h
  · rename_i a b c hp
    split at h
    · rename_i t m p y z h1 h2 h3
      obtain rfl := Option.some.inj h
      have hj := join_pieces3 l
      rw [hp] at hj
      rw [p5_eq]
      unfold p1
      simp only
      rw [← (rnL_text h1).1, ← (rnL_text h2).1, ← (rnL_text h3).1, ← hj, Lib.join_cons]
      simp [Lib.joinTail, sep3]
    · cases h
  · cases h
/-- a valid entry -/
structure EnU (e : Ent) : Prop where
  t : 0 ≤ e.time ∧ e.time ≤ 10000
  m : 1 ≤ e.msg ∧ e.msg ≤ 999
  p : 0 ≤ e.part ∧ e.part ≤ 8
  sn : e.seen ≠ [] ∧ ∀ n ∈ e.seen, 0 ≤ n ∧ n ≤ 63
  sh : e.shown ≠ [] ∧ ∀ n ∈ e.shown, 0 ≤ n ∧ n ≤ 63
theorem sg_u {zs : List Int} (h : sgB zs = true) : zs ≠ [] ∧ ∀ n ∈ zs, 0 ≤ n ∧ n ≤ 63 := by
  simp only [sgB, Bool.and_eq_true, inB_iff] at h
  refine ⟨fun e => by subst e; simp at h, fun n hn => ?_⟩
  obtain ⟨k, hk, rfl⟩ := List.getElem_of_mem hn
  exact allB_iff.1 h.2 k hk
theorem ent_u {es : List Ent} (h : logB es = true) : ∀ e ∈ es, EnU e := fun e he => by
  obtain ⟨k, hk, rfl⟩ := List.getElem_of_mem he
  obtain ⟨h1, h2, h3, h4, h5, _⟩ := log_at h k hk
  exact ⟨h1, h2, h3, sg_u h4, sg_u h5⟩
theorem EnU.three {e : Ent} (h : EnU e) : ∀ n ∈ [e.time, e.msg, e.part], 0 ≤ n ∧ n ≤ 10000 := by
  obtain ⟨h1, h2, h3, _, _⟩ := h
  intro n hn
  simp only [List.mem_cons, List.not_mem_nil, or_false] at hn
  rcases hn with rfl | rfl | rfl <;> omega
theorem EnU.free {e : Ent} (h : EnU e) {c : UInt8} (hc : ¬ c = 32) (hb : c.toNat < 48 ∨ 57 < c.toNat) : c ∉ p1 e ∧ c ∉ joinS e.seen [32] ∧ c ∉ joinS e.shown [32] :=
  ⟨joinS_free hc hb fun n hn => by have := h.three n hn; omega, joinS_free hc hb fun n hn => by have := h.sn.2 n hn; omega, joinS_free hc hb fun n hn => by have := h.sh.2 n hn; omega⟩
theorem lnO_of {e : Ent} (h : EnU e) : lnO (p5 e) = some e := by
  obtain ⟨f1, f2, f3⟩ := h.free (c := 58) (by decide) (.inr (by decide))
  have e1 : rnL (splitL 32 (p1 e)) = some [e.time, e.msg, e.part] := rnL_join (by decide) (by simp) fun n hn => by have := h.three n hn; omega
  have e2 := rnL_join (b := 32) (by decide) h.sn.1 fun n hn => by have := h.sn.2 n hn; omega
  have e3 := rnL_join (b := 32) (by decide) h.sh.1 fun n hn => by have := h.sh.2 n hn; omega
  unfold lnO
  rw [p5_eq, pieces3_eq f1 f2 f3]
  simp only [e1, e2, e3]

/-! ### the lines of a log's text -/
def lnL : List (List UInt8) → Option (List Ent)
  | [] => some []
  | p :: ps => match lnO p, lnL ps with
    | some n, some ns => some (n :: ns)
    | _, _ => none
theorem lnL_some : ∀ {ps : List (List UInt8)} {ns : List Ent}, lnL ps = some ns → ps.map lnO = ns.map some
  | [], ns, h => by obtain rfl := Option.some.inj h; rfl
  | p :: ps, ns, h => by
    unfold lnL at h
    split at h
    · rename_i n ns' h1 h2
      obtain rfl := Option.some.inj h
      rw [List.map_cons, List.map_cons, h1, lnL_some h2]
    · cases h
theorem lnL_none : ∀ {ps : List (List UInt8)}, lnL ps = none → ∃ (k : Nat) (ns : List Ent) (h : k < ps.length), ns.length = k ∧ (ps.take k).map lnO = ns.map some ∧ lnO ps[k] = none
  | [], h => by cases h
  | p :: ps, h => by
    cases hp : lnO p with
    | none => exact ⟨0, [], by simp, rfl, rfl, by simpa using hp⟩
    | some n =>
      cases hs : lnL ps with
      | some ns => simp [lnL, hp, hs] at h
      | none =>
        obtain ⟨k, ns, hk, hl, hm, he⟩ := lnL_none hs
        exact ⟨k + 1, n :: ns, by simp; omega, by simp [hl], by rw [List.take_succ_cons, List.map_cons, List.map_cons, hp, hm], by simpa using he⟩
theorem lnL_of : ∀ {es : List Ent}, (∀ e ∈ es, EnU e) → lnL (es.map p5) = some es
  | [], _ => rfl
  | e :: es, h => by rw [List.map_cons, lnL, lnO_of (h e (by simp)), lnL_of fun x hx => h x (by simp [hx])]
theorem lnL_text {ps : List (List UInt8)} {es : List Ent} (h : lnL ps = some es) : ps = es.map p5 := by
  have h1 := lnL_some h
  refine List.ext_getElem (by simpa using congrArg List.length h1) fun k hk1 hk2 => ?_
  have hk3 : k < es.length := by simpa using hk2
  have h3 := congrArg (fun x => x[k]?) h1
  simp only [List.getElem?_map, List.getElem?_eq_getElem hk1, List.getElem?_eq_getElem hk3, Option.map_some, Option.some.injEq] at h3
  rw [List.getElem_map]
  exact (lnO_text h3).symm
/-- pieces without the byte, joined by it, split at it -/
theorem splitL_join {b : UInt8} : ∀ {ps : List (List UInt8)}, ps ≠ [] → (∀ p ∈ ps, b ∉ p) → splitL b (Lib.join ps [b]) = ps
  | [], h, _ => absurd rfl h
  | [p], _, h => by rw [Lib.join_one, splitL_free (h p (by simp))]
  | p :: q :: r, _, h => by
    have h2 := splitL_join (b := b) (ps := q :: r) (by simp) (fun x hx => h x (List.mem_cons_of_mem _ hx))
    have e : Lib.join (p :: q :: r) [b] = p ++ b :: Lib.join (q :: r) [b] := by
      rw [Lib.join_cons, Lib.join_cons]; simp [Lib.joinTail]
    rw [e, splitL_sep _ (h p (by simp)), h2]
def ltX (es : List Ent) : List UInt8 := ltTo es es.length
theorem ltX_eq (es : List Ent) : ltX es = (es.map p6).flatten := by unfold ltX ltTo; rw [List.take_length]
theorem ltX_nil : ltX [] = [] := rfl
theorem ltX_body : ∀ {es : List Ent}, es ≠ [] → ltX es = Lib.join (es.map p5) [10] ++ [10]
  | [], h => absurd rfl h
  | [e], _ => by rw [ltX_eq]; simp [p6, Lib.join_one]
  | e :: f :: r, _ => by
    have ih := ltX_body (es := f :: r) (by simp)
    rw [ltX_eq] at ih ⊢
    rw [List.map_cons, List.flatten_cons, ih, List.map_cons, List.map_cons, Lib.join_cons, List.map_cons, Lib.join_cons]
    simp [p6, Lib.joinTail]
theorem p5_free {e : Ent} (h : EnU e) : (10 : UInt8) ∉ p5 e := by
  obtain ⟨f1, f2, f3⟩ := h.free (c := 10) (by decide) (.inl (by decide))
  rw [p5_eq]
  simp [f1, f2, f3]
/-- the log that a text holds: as the program reads it -/
def plS (s : List UInt8) : Option (List Ent) :=
  if s = [] then some [] else
  if s.getLast? = some 10 then
    match lnL (splitL 10 s.dropLast) with
    | some es => if logB es = true then some es else none
    | none => none
  else none
theorem dl_snoc {s : List UInt8} {b : UInt8} (h : s.getLast? = some b) : s = s.dropLast ++ [b] := by
  obtain ⟨r, rfl⟩ := List.getLast?_eq_some_iff.1 h
  simp
theorem plS_text {s : List UInt8} {es : List Ent} (h : plS s = some es) : logB es = true ∧ ltX es = s := by
  unfold plS at h
  split at h
  · rename_i hs
    obtain rfl := Option.some.inj h
    subst hs
    exact ⟨by decide +kernel, rfl⟩
  · split at h
    · rename_i hl
      split at h
      · rename_i es' h1
        split at h
        · rename_i hg
          obtain rfl := Option.some.inj h
          refine ⟨hg, ?_⟩
          have h2 := lnL_text h1
          have hne : es' ≠ [] := fun e => by subst e; exact splitL_ne _ _ h2
          rw [ltX_body hne, ← h2, join_splitL]
          exact (dl_snoc hl).symm
        · cases h
      · cases h
    · cases h
theorem plS_of {es : List Ent} (h : logB es = true) : plS (ltX es) = some es := by
  by_cases he : es = []
  · subst he; rfl
  · have hu := ent_u h
    have hne : es.map p5 ≠ [] := by simpa using he
    unfold plS
    rw [ltX_body he, if_neg (by simp), if_pos (by simp), List.dropLast_concat, splitL_join hne fun p hp => by
      obtain ⟨e, he2, rfl⟩ := List.mem_map.1 hp
      exact p5_free (hu e he2), lnL_of hu]
    simp [h]
theorem ltX_split {es : List Ent} (h : logB es = true) : splitL 10 (ltX es) = es.map p5 ++ [[]] := by
  by_cases he : es = []
  · subst he; rfl
  · have hu := ent_u h
    have hne : es.map p5 ≠ [] := by simpa using he
    rw [ltX_body he, splitL_snoc_sep, splitL_join hne fun p hp => by
      obtain ⟨e, he2, rfl⟩ := List.mem_map.1 hp
      exact p5_free (hu e he2)]

/-! ### the reference's reading -/
/-- the numbers of a part of a line, blanks passed over -/
def lgN (s : List UInt8) : List Int := ((splitL 32 s).filter fun p => !p.isEmpty).map l1R
theorem filter_nums {l : List Int} (h : ∀ n ∈ l, 0 ≤ n) : (l.map numS).filter (fun p => !p.isEmpty) = l.map numS := by
  rw [List.filter_eq_self]
  intro p hp
  obtain ⟨n, hn, rfl⟩ := List.mem_map.1 hp
  have := numS_ne (h n hn)
  simpa using this
theorem lgN_join {l : List Int} (h : ∀ n ∈ l, 0 ≤ n ∧ n < 1000000) : lgN (joinS l [32]) = l := by
  unfold lgN
  by_cases hl : l = []
  · subst hl; rfl
  · rw [splitL_joinS (by decide) l hl fun n hn => by have := h n hn; omega, filter_nums fun n hn => (h n hn).1, map_l1R h]
theorem lgN_snoc (s : List UInt8) : lgN (s ++ [32]) = lgN s := by
  unfold lgN; rw [splitL_snoc_sep, List.filter_append]; simp
theorem lgN_cons (s : List UInt8) : lgN (32 :: s) = lgN s := by
  unfold lgN
  have : splitL 32 (32 :: s) = [] :: splitL 32 s := splitL_sep (b := 32) (l := []) s (by simp)
  rw [this]; simp
def rlO (l : List UInt8) : Option Ent :=
  match splitL 58 l with
  | [a, b, c] => match lgN a with
    | [t, m, p] => some ⟨t, m, p, lgN b, lgN c⟩
    | _ => none
  | _ => none
theorem rlO_of {e : Ent} (h : EnU e) : rlO (p5 e) = some e := by
  obtain ⟨f1, f2, f3⟩ := h.free (c := 58) (by decide) (.inr (by decide))
  have hs : splitL 58 (p5 e) = [p1 e ++ [32], 32 :: (joinS e.seen [32] ++ [32]), 32 :: joinS e.shown [32]] := by
    have e0 : p5 e = (p1 e ++ [32]) ++ 58 :: ((32 :: (joinS e.seen [32] ++ [32])) ++ 58 :: (32 :: joinS e.shown [32])) := by rw [p5_eq]; simp
    rw [e0, splitL_sep _ (by simp [f1]), splitL_sep _ (by simp [f2]), splitL_free (by simp [f3])]
  have e1 : lgN (p1 e ++ [32]) = [e.time, e.msg, e.part] := by
    rw [lgN_snoc]; exact lgN_join fun n hn => by have := h.three n hn; omega
  have e2 : lgN (32 :: (joinS e.seen [32] ++ [32])) = e.seen := by
    rw [lgN_cons, lgN_snoc]; exact lgN_join fun n hn => by have := h.sn.2 n hn; omega
  have e3 : lgN (32 :: joinS e.shown [32]) = e.shown := by
    rw [lgN_cons]; exact lgN_join fun n hn => by have := h.sh.2 n hn; omega
  unfold rlO
  rw [hs]
  simp only [e1, e2, e3]
theorem pl_many {s : List UInt8} (h : 31 < (splitL 10 s).length) : plS s = none := by
  cases hs : plS s with
  | none => rfl
  | some es =>
    obtain ⟨hg, rfl⟩ := plS_text hs
    rw [ltX_split hg] at h
    have := log_len hg
    simp at h
    omega
theorem pl_bad {s : List UInt8} {k : Nat} (hk : k + 1 < (splitL 10 s).length) (h : rlO (splitL 10 s)[k] = none) : plS s = none := by
  cases hs : plS s with
  | none => rfl
  | some es =>
    obtain ⟨hg, rfl⟩ := plS_text hs
    have h1 := ltX_split hg
    have hk2 : k < es.length := by rw [h1] at hk; simpa using hk
    have h2 : (splitL 10 (ltX es))[k] = p5 es[k] := by simp only [h1]; rw [List.getElem_append_left (by simpa using hk2)]; simp
    rw [h2, rlO_of (ent_u hg _ (List.getElem_mem hk2))] at h
    cases h
theorem pl_read {s : List UInt8} {es : List Ent} (h : (splitL 10 s).dropLast.map rlO = es.map some) : plS s = if logB es = true ∧ ltX es = s then some es else none := by
  split
  · rename_i h1
    conv => lhs; rw [← h1.2]
    exact plS_of h1.1
  · rename_i h1
    cases hp : plS s with
    | none => rfl
    | some es2 =>
      obtain ⟨hg, rfl⟩ := plS_text hp
      rw [ltX_split hg, List.dropLast_concat, List.map_map] at h
      have h2 : es2.map (rlO ∘ p5) = es2.map some := List.map_congr_left fun e he => rlO_of (ent_u hg e he)
      rw [h2] at h
      have h3 : es2 = es := by
        refine List.ext_getElem (by simpa using congrArg List.length h) fun k hk1 hk2 => ?_
        have h3 := congrArg (fun x => x[k]?) h
        simpa [hk1, hk2] using h3
      subst h3
      exact absurd ⟨hg, rfl⟩ h1
def plB (s : List UInt8) : Bool := (plS s).isSome
def plL (s : List UInt8) : List Ent := (plS s).getD []
theorem pl_some {s : List UInt8} {es : List Ent} (h : plS s = some es) : plB s = true ∧ plL s = es := by simp [plB, plL, h]
theorem pl_none {s : List UInt8} (h : plS s = none) : plB s = false ∧ plL s = [] := by simp [plB, plL, h]
end Go.Proofs.YtjhbffndiaggmaaGreatDoor

/-
  Contract of ParseLog in the program. The conditions are a bound on the text's length, and the library's variables.
-/
namespace Go.Proofs.YtjhbffndiaggmaaGreatDoor
open Go.RowKit Go.ChangeShapes Go.WideShapes
set_option linter.unusedVariables false
set_option linter.unusedSimpArgs false

def pqB (s : ByteArray) : Bool := plB s.data.toList
def pqL (s : ByteArray) : List Ent := plL s.data.toList
theorem split3_call (l : List UInt8) (w : World) (hl : l.length ≤ 1048577) (hS : Sen w) :
    Calls Tryz.prog 132 #[.string (str l), .string { data := #[32, 58, 32] }] w fun e w' => e = .returned (.slice (some ⟨w.heap.size, 0, none⟩) (pieces3 l).length (pieces3 l).length) ∧ Bk w' w.heap.size 9 ((pieces3 l).map fun p => Value.string (str p)).toArray ∧ Below w.heap.size w w' := by
  obtain ⟨m, hm⟩ := hS.len
  obtain ⟨h1, h2⟩ := split3_pieces l
  refine (Tryz.strings_Split (str l) (str sep3) m w (by rw [str_size]; omega) hm (by rw [str_size]; simp [sep3])).mono ?_
  rintro e w' ⟨rfl, rfl⟩
  rw [h2, h1, pieces3_length, List.map_map]
  exact ⟨rfl, Bk.new w _ _, (Below.refl _ _).alloc (Nat.le_refl _) _⟩
theorem splitNumbers_w (l : List UInt8) (b : UInt8) (w : World) (hl : l.length ≤ 1048577) (hS : Sen w) :
    Calls Tryz.prog 84 #[.string (str l), .string { data := #[b] }] w fun e w' => ∃ A n c v, e = .returned (.tuple #[.slice A n c, .bool v]) ∧ Below w.heap.size w w' := by
  cases h : rnL (splitL b l) with
  | none => exact (splitNumbers_none l b w hl hS h).mono fun e w' ⟨he, hb⟩ => ⟨none, 0, 0, false, he, hb⟩
  | some ns => exact (splitNumbers_yes l b w hl hS ns h).mono fun e w' ⟨A, c, he, _, hb⟩ => ⟨A, _, c, true, he, hb⟩
theorem suf_iff {l : List UInt8} {b : UInt8} : Lib.hasSuffix l [b] = true ↔ l.getLast? = some b := by
  unfold Lib.hasSuffix
  rw [List.isSuffixOf_iff_suffix, List.getLast?_eq_some_iff]
  constructor
  · rintro ⟨t, ht⟩; exact ⟨t, ht.symm⟩
  · rintro ⟨t, ht⟩; exact ⟨t, ht.symm⟩
theorem cutSuffix_yes (l : List UInt8) (w : World) (hl : l.length ≤ 1048577) (h : l.getLast? = some 10) :
    Calls Tryz.prog 165 #[.string (str l), .string { data := #[10] }] w fun e w' => e = .returned (.tuple #[.string (str l.dropLast), .bool true]) ∧ w' = w := by
  refine (Tryz.strings_CutSuffix (str l) (str [10]) w (by rw [str_size]; omega)).mono ?_
  rintro e w' ⟨he, hw⟩
  have h1 := suf_iff.2 h
  simp only [str_toList, h1] at he
  have h2 : Lib.trimSuffix l [10] = l.dropLast := by
    unfold Lib.trimSuffix
    rw [h1, if_pos rfl, List.dropLast_eq_take]
    rfl
  rw [h2] at he
  exact ⟨he, hw⟩
theorem cutSuffix_no (l : List UInt8) (w : World) (hl : l.length ≤ 1048577) (h : ¬ l.getLast? = some 10) :
    Calls Tryz.prog 165 #[.string (str l), .string { data := #[10] }] w fun e w' => e = .returned (.tuple #[.string (str l), .bool false]) ∧ w' = w := by
  refine (Tryz.strings_CutSuffix (str l) (str [10]) w (by rw [str_size]; omega)).mono ?_
  rintro e w' ⟨he, hw⟩
  have h1 : Lib.hasSuffix l [10] = false := by
    cases hs : Lib.hasSuffix l [10] with
    | false => rfl
    | true => exact absurd (suf_iff.1 hs) h
  simp only [str_toList, h1] at he
  have h2 : Lib.trimSuffix l [10] = l := by
    unfold Lib.trimSuffix
    rw [h1]
    rfl
  rw [h2] at he
  exact ⟨he, hw⟩
/-! ### sizes -/
theorem joinS_ge {l : List Int} {b : UInt8} (h : ∀ n ∈ l, 0 ≤ n) : l.length ≤ (joinS l [b]).length := by
  cases l with
  | nil => simp
  | cons n r =>
    unfold joinS
    rw [List.map_cons, Lib.join_length]
    have h0 := numS_pos (h n (by simp))
    simp [Lib.lens]
    omega
theorem lens_split (b : UInt8) (l : List UInt8) : Lib.lens (splitL b l) ≤ l.length := by
  have h := join_splitL b l
  cases hs : splitL b l with
  | nil => simp [Lib.lens]
  | cons x r =>
    rw [hs] at h
    have h2 := congrArg List.length h
    rw [Lib.join_length] at h2
    omega
theorem lens_map (es : List Ent) (h : ∀ e ∈ es, ∀ n ∈ e.seen ++ e.shown, 0 ≤ n) : eszL es ≤ Lib.lens (es.map p5) := by
  rw [esz_sum]
  unfold Lib.lens
  rw [List.map_map]
  induction es with
  | nil => simp
  | cons e r ih =>
    have h1 := ih (fun x hx => h x (List.mem_cons_of_mem _ hx))
    have h2 := joinS_ge (l := e.seen) (b := 32) (fun n hn => h e (by simp) n (by simp [hn]))
    have h3 := joinS_ge (l := e.shown) (b := 32) (fun n hn => h e (by simp) n (by simp [hn]))
    have h4 : eW e ≤ (p5 e).length := by
      rw [p5_eq]
      simp only [List.length_append, List.length_cons, eW]
      omega
    simp only [List.map_cons, List.sum_cons, Function.comp] at h1 ⊢
    omega
theorem lnO_nn {l : List UInt8} {e : Ent} (h : lnO l = some e) : ∀ n ∈ e.seen ++ e.shown, 0 ≤ n := by
  unfold lnO at h
  split at h
  · rename_i a b c hp
    split at h
    · rename_i t m p y z h1 h2 h3
      obtain rfl := Option.some.inj h
      intro n hn
      rcases List.mem_append.1 hn with hn | hn
      · exact ((rnL_text h2).2.2 n hn).1
      · exact ((rnL_text h3).2.2 n hn).1
    · cases h
  · cases h
theorem ln_size {ls : List (List UInt8)} {es : List Ent} (h : lnL ls = some es) : eszL es ≤ Lib.lens ls := by
  have h1 := lnL_text h
  have h2 := lnL_some h
  rw [h1]
  refine lens_map es fun e he => ?_
  obtain ⟨k, hk, rfl⟩ := List.getElem_of_mem he
  have hk2 : k < ls.length := by rw [h1]; simpa using hk
  have h3 := congrArg (fun x => x[k]?) h2
  simp only [List.getElem?_map, List.getElem?_eq_getElem hk2, List.getElem?_eq_getElem hk, Option.map_some, Option.some.injEq] at h3
  exact lnO_nn h3
theorem pl_size (l : List UInt8) (hl : l.length ≤ 1048576) : eszL (plL l) ≤ 1048576 := by
  cases h : plS l with
  | none => rw [(pl_none h).2, esz_nil]; omega
  | some es =>
    rw [(pl_some h).2]
    have := log_esz (plS_text h).1
    omega
/-- lines read one after another -/
theorem lnL_snoc {ls : List (List UInt8)} {es : List Ent} {k : Nat} {e : Ent} (hk : k < ls.length) (h : lnL (ls.take k) = some es) (h1 : lnO ls[k] = some e) : lnL (ls.take (k + 1)) = some (es ++ [e]) := by
  rw [List.take_succ_eq_append_getElem hk]
  have key : ∀ (a : List (List UInt8)) (es : List Ent), lnL a = some es → lnL (a ++ [ls[k]]) = some (es ++ [e]) := by
    intro a
    induction a with
    | nil => intro es h; obtain rfl := Option.some.inj h; simp [lnL, h1]
    | cons x r ih =>
      intro es h
      cases hx : lnO x with
      | none => simp [lnL, hx] at h
      | some y =>
        cases hr : lnL r with
        | none => simp [lnL, hx, hr] at h
        | some ys =>
          have : es = y :: ys := by simpa [lnL, hx, hr] using h.symm
          subst this
          simp [lnL, hx, ih ys hr]
  exact key _ es h
theorem lnL_bad {ls : List (List UInt8)} {k : Nat} (hk : k < ls.length) (h1 : lnO ls[k] = none) : lnL ls = none := by
  cases h : lnL ls with
  | none => rfl
  | some es =>
    have h2 := lnL_some h
    have h3 := congrArg (fun x => x[k]?) h2
    have hk2 : k < es.length := by have := congrArg List.length h2; simp at this; omega
    simp only [List.getElem?_map, List.getElem?_eq_getElem hk, List.getElem?_eq_getElem hk2, Option.map_some, Option.some.injEq] at h3
    rw [h1] at h3
    cases h3
theorem lnO_len {l : List UInt8} (h : ¬ (pieces3 l).length = 3) : lnO l = none := by
  unfold lnO
  split
  · rename_i a b c hp; rw [hp] at h; exact absurd rfl h
  · rfl
theorem lnO_a {l a b c : List UInt8} (hp : pieces3 l = [a, b, c]) (h : rnL (splitL 32 a) = none) : lnO l = none := by unfold lnO; rw [hp]; simp only [h]
theorem lnO_b {l a b c : List UInt8} (hp : pieces3 l = [a, b, c]) (h : rnL (splitL 32 b) = none) : lnO l = none := by
  unfold lnO; rw [hp]; simp only [h]
  split
  · rename_i h1 h2 h3; cases h2
  · rfl
theorem lnO_c {l a b c : List UInt8} (hp : pieces3 l = [a, b, c]) (h : rnL (splitL 32 c) = none) : lnO l = none := by
  unfold lnO; rw [hp]; simp only [h]
  split
  · rename_i h1 h2 h3; cases h3
  · rfl
theorem lnO_h {l a b c : List UInt8} {hd : List Int} (hp : pieces3 l = [a, b, c]) (h : rnL (splitL 32 a) = some hd) (hl : ¬ hd.length = 3) : lnO l = none := by
  unfold lnO; rw [hp]; simp only [h]
  split
  · rename_i t m p y z h1 h2 h3
    obtain rfl := Option.some.inj h1
    exact absurd rfl hl
  · rfl
theorem lnO_yes {l a b c : List UInt8} {t m p : Int} {y z : List Int} (hp : pieces3 l = [a, b, c]) (h1 : rnL (splitL 32 a) = some [t, m, p]) (h2 : rnL (splitL 32 b) = some y) (h3 : rnL (splitL 32 c) = some z) : lnO l = some ⟨t, m, p, y, z⟩ := by
  unfold lnO; rw [hp]; simp only [h1, h2, h3]
theorem mem_sum {x : Nat} : ∀ {xs : List Nat}, x ∈ xs → x ≤ xs.sum
  | [], h => by cases h
  | y :: r, h => by
    rw [List.sum_cons]
    rcases List.mem_cons.1 h with rfl | h
    · omega
    · have := mem_sum h; omega
theorem pieces3_le (l : List UInt8) : ∀ p ∈ pieces3 l, p.length ≤ l.length := by
  intro p hp
  have h := join_pieces3 l
  cases hs : pieces3 l with
  | nil => rw [hs] at hp; cases hp
  | cons x r =>
    rw [hs] at h hp
    have h2 := congrArg List.length h
    rw [Lib.join_length] at h2
    have h3 : p.length ≤ Lib.lens (x :: r) := by
      unfold Lib.lens
      exact mem_sum (List.mem_map.2 ⟨p, hp, rfl⟩)
    omega
set_option maxRecDepth 100000 in
theorem linesOf_l (l : List UInt8) (w : World) (hl : l.length ≤ 1048576) (hS : Sen w) (hne : ¬ l = []) (h : l.getLast? = some 10) :
    Calls Tryz.prog 131 #[.string (str l)] w fun e w' => e = .returned (.tuple #[.slice (some ⟨w.heap.size, 0, none⟩) (splitL 10 l.dropLast).length (splitL 10 l.dropLast).length, .bool true]) ∧ Bk w' w.heap.size 9 ((splitL 10 l.dropLast).map fun p => Value.string (str p)).toArray ∧ Below w.heap.size w w' := by
  have hn1 : ¬ str l = { data := #[] } := fun e => hne (str_inj (b := []) e)
  have hn2 : ((str l).toList == ({ data := #[] } : ByteArray).toList) = false := by
    rw [beq_eq_false_iff_ne]
    intro e
    rw [ByteArray.toList_eq, ByteArray.toList_eq, str_toList] at e
    exact hne e
  have hn3 : ((str l).toList == []) = false := by
    rw [beq_eq_false_iff_ne]
    intro e
    rw [ByteArray.toList_eq, str_toList] at e
    exact hne e
  go_enter Tryz.func131, Tryz.ntmps131
  go_wp2_with fail
  (with_reducible refine (cutSuffix_yes l _ (by omega) h).mono ?_)
  rintro e w1 ⟨rfl, rfl⟩
  go_wp2_with fail
  (with_reducible refine (split_call 10 l.dropLast _ (by rw [List.length_dropLast]; omega) hS).mono ?_)
  rintro e w2 ⟨rfl, hk, hb⟩
  go_wp2
  go_ret2
  exact ⟨rfl, hk, hb⟩
set_option maxRecDepth 100000 in
theorem linesOf_no (l : List UInt8) (w : World) (hl : l.length ≤ 1048576) (hne : ¬ l = []) (h : ¬ l.getLast? = some 10) :
    Calls Tryz.prog 131 #[.string (str l)] w fun e w' => e = .returned (.tuple #[.slice none 0 0, .bool false]) ∧ w' = w := by
  have hn1 : ¬ str l = { data := #[] } := fun e => hne (str_inj (b := []) e)
  have hn2 : ((str l).toList == ({ data := #[] } : ByteArray).toList) = false := by
    rw [beq_eq_false_iff_ne]
    intro e
    rw [ByteArray.toList_eq, ByteArray.toList_eq, str_toList] at e
    exact hne e
  have hn3 : ((str l).toList == []) = false := by
    rw [beq_eq_false_iff_ne]
    intro e
    rw [ByteArray.toList_eq, str_toList] at e
    exact hne e
  go_enter Tryz.func131, Tryz.ntmps131
  go_wp2_with fail
  (with_reducible refine (cutSuffix_no l _ (by omega) h).mono ?_)
  rintro e w1 ⟨rfl, rfl⟩
  go_wp2_with fail
  go_ret2
  exact ⟨rfl, rfl⟩
set_option maxRecDepth 100000 in
theorem linesOf_nil (w : World) : Calls Tryz.prog 131 #[.string (str [])] w fun e w' => e = .returned (.tuple #[.slice none 0 0, .bool true]) ∧ w' = w := by
  have hst : str [] = { data := #[] } := rfl
  go_enter Tryz.func131, Tryz.ntmps131
  go_wp2_with fail
  go_ret2
  exact ⟨rfl, rfl⟩
set_option maxRecDepth 100000 in
set_option maxHeartbeats 8000000 in
theorem iParseLog_l (l : List UInt8) (w : World) (hl : l.length ≤ 1048576) (hS : Sen w) :
    Calls Tryz.prog 57 #[.string (str l)] w fun e w' => ∃ A c, e = .returned (.tuple #[.slice A (plL l).length c, .bool (plB l)]) ∧ OwnE w' w.heap.size w'.heap.size (.slice A (plL l).length c) (plL l) ∧ eszL (plL l) ≤ 1048576 ∧ Below w.heap.size w w' := by
  by_cases hne : l = []
  · subst hne
    have hp := pl_some (s := []) (es := []) rfl
    rw [hp.1, hp.2]
    go_enter Tryz.func57, Tryz.ntmps57
    go_wp2_with fail
    (with_reducible refine (linesOf_nil _).mono ?_)
    rintro e w1 ⟨rfl, rfl⟩
    go_wp2_with fail
    go_loopw [6, 25] (fun v i wr => v = .slice none 0 0 ∧ i = .int .i64 0 ∧ wr = w1) (fun _ i _ => 0)
    case atStart => exact ⟨rfl, rfl, rfl⟩
    case round =>
      obtain ⟨rfl, rfl, rfl⟩ := hrel
      go_wp2_with fail
      (with_reducible refine (checkedLog_v [] none 0 0 (l := 0) (h := 0) _ RdE.nil rfl (by rw [esz_nil]; omega) (Nat.le_refl _) true (by decide +kernel) [] rfl).mono ?_)
      rintro e w2 ⟨A2, c2, rfl, hcs, hb2⟩
      go_wp2
      go_ret2
      refine ⟨A2, c2, rfl, ?_, by rw [esz_nil]; omega, hb2⟩
      rcases hcs.out with ⟨_, hA, hc⟩ | ⟨hv, _⟩
      · rw [hA, hc]; exact OwnE.nil
      · cases hv
  · by_cases hla : l.getLast? = some 10
    · obtain ⟨Ls, hLs⟩ : ∃ Ls, splitL 10 l.dropLast = Ls := ⟨_, rfl⟩
      have hpl : Hid (∀ k (h : k < Ls.length), Ls[k].length ≤ 1048576) := Lib.hid (fun k h => by
        have := splitL_piece_le 10 l.dropLast Ls[k] (by rw [hLs]; exact List.getElem_mem h)
        rw [List.length_dropLast] at this
        omega)
      have hLl : Ls.length ≤ 1048577 := by
        rw [← hLs, splitL_length]
        have := List.count_le_length (a := (10 : UInt8)) (l := l.dropLast)
        rw [List.length_dropLast] at this
        omega
      have hlens : Lib.lens Ls ≤ 1048576 := by
        have := lens_split 10 l.dropLast
        rw [hLs, List.length_dropLast] at this
        omega
      have hps : Hid (∀ es, lnL Ls = some es → plS l = if logB es = true then some es else none) := Lib.hid (fun es h => by
        unfold plS; rw [if_neg hne, if_pos hla, hLs, h])
      have hpn : Hid (lnL Ls = none → plS l = none) := Lib.hid (fun h => by
        unfold plS; rw [if_neg hne, if_pos hla, hLs, h])
      have hlensH := Lib.hid hlens
      go_enter Tryz.func57, Tryz.ntmps57
      go_wp2_with fail
      (with_reducible refine (linesOf_l l _ hl hS hne hla).mono ?_)
      rintro e w1 ⟨rfl, bL, hb1⟩
      rw [hLs] at bL ⊢
      have s1 := hb1.size
      have hS1 := hS.st hb1
      have hgL := bL.lt
      have hb1H := Lib.hid hb1
      clear hne hla hlens hS hb1 hLs
      go_wp2_with fail
      go_loopw [6, 25] (fun v i wr => ∃ (k : Nat) (es : List Ent) (rows : List (List Value)), k ≤ Ls.length ∧ i = .int .i64 k ∧ es.length = k ∧ lnL (Ls.take k) = some es ∧ OwnR wr w1.heap.size wr.heap.size 74 5 v rows ∧ EntsOwn wr w1.heap.size wr.heap.size es rows ∧ Below w1.heap.size w1 wr) (fun _ i _ => Ls.length - (intOf i).toNat)
      case atStart => exact ⟨0, [], [], Nat.zero_le _, rfl, rfl, rfl, OwnR.nil, EntsOwn.nil, Below.refl _ _⟩
      case round =>
        obtain ⟨k, es, rows, hk, rfl, hesl, hln, hown, hen, hbr⟩ := hrel
        have hszr := hbr.size
        obtain ⟨Av, cv, rfl, hvc, hvm, -, -⟩ := hown.cells
        have hrl : rows.length = k := by rw [hen.len, hesl]
        have hrlH := Lib.hid hrl
        have hesH := Lib.hid hesl
        have hlnH := Lib.hid hln
        rw [hrl] at hown hvc ⊢
        clear hrl hesl hln
        by_cases hlt : k < Ls.length
        · have x0 : wr.cell? ⟨w.heap.size, k, none⟩ = some (.string (str Ls[k])) := by rw [(bL.st hbr).cell k]; simp [hlt]
          have hp1 := hpl.out k hlt
          have hSr := hS1.st hbr
          obtain ⟨L, hL⟩ : ∃ L, Ls[k] = L := ⟨_, rfl⟩
          have hbad : Hid (lnO L = none → plS l = none) := Lib.hid (fun h => hpn.out (lnL_bad hlt (by rw [hL]; exact h)))
          rw [hL] at x0 hp1
          go_wp2_with fail
          (with_reducible refine (split3_call L _ (by omega) hSr).mono ?_)
          rintro e w2 ⟨rfl, bP, hb2⟩
          have s2 := hb2.size
          have hB2 := hbr.trans (hb2.mono hszr)
          have hS2 := hSr.st hb2
          have hownH := Lib.hid (hown.st hb2)
          have henH := Lib.hid (hen.st hb2)
          obtain ⟨PC, hPC⟩ : ∃ PC, pieces3 L = PC := ⟨_, rfl⟩
          have hPl := pieces3_le L
          rw [hPC] at bP hPl ⊢
          clear x0 hSr hown hen
          by_cases h3 : PC.length = 3
          · obtain ⟨a, b, c, habc⟩ : ∃ a b c, PC = [a, b, c] := by
              match PC, h3 with
              | [a, b, c], _ => exact ⟨a, b, c, rfl⟩
            subst habc
            have la := hPl a (by simp)
            have lb := hPl b (by simp)
            have lc := hPl c (by simp)
            have z0 := bP.cell 0
            have z1 := bP.cell 1
            have z2 := bP.cell 2
            simp at z0 z1 z2
            have hgP := bP.lt
            have hbrH := Lib.hid hbr
            clear h3 hPl hb2 hbr
            go_wp2_with fail
            cases r0 : rnL (splitL 32 a) with
            | none =>
              (with_reducible refine (splitNumbers_none a 32 _ (by omega) hS2 r0).mono ?_)
              rintro e w3 ⟨rfl, hb3⟩
              have s3 := hb3.size
              have hB3 := hB2.trans (hb3.mono (by omega))
              have hS3 := hS2.st hb3
              have z1' := ((bcell hb3).1 _ _ (by omega)).trans z1
              have z2' := ((bcell hb3).1 _ _ (by omega)).trans z2
              go_wp2_with fail
              (with_reducible refine (splitNumbers_w b 32 _ (by omega) hS3).mono ?_)
              rintro e w4 ⟨A4, n4, c4, v4, rfl, hb4⟩
              have s4 := hb4.size
              have hB4 := hB3.trans (hb4.mono (by omega))
              have hS4 := hS3.st hb4
              have z2'' := ((bcell hb4).1 _ _ (by omega)).trans z2'
              go_wp2_with fail
              (with_reducible refine (splitNumbers_w c 32 _ (by omega) hS4).mono ?_)
              rintro e w5 ⟨A5, n5, c5, v5, rfl, hb5⟩
              have s5 := hb5.size
              have hB5 := hB4.trans (hb5.mono (by omega))
              have hS5 := hS4.st hb5
              have hno := Lib.hid (pl_none (hbad.out (lnO_a hPC r0)))
              have hB := Lib.hid (hb1H.out.trans (hB5.mono s1))
              clear hB5 bP
              go_wp2_with fail
              go_ret2
              rw [hno.out.1, hno.out.2]
              exact ⟨none, 0, rfl, OwnE.nil, by rw [esz_nil]; omega, hB.out⟩
            | some hd =>
              (with_reducible refine (splitNumbers_yes a 32 _ (by omega) hS2 hd r0).mono ?_)
              rintro e w3 ⟨A3, c3, rfl, ho3, hb3⟩
              have s3 := hb3.size
              have hB3 := hB2.trans (hb3.mono (by omega))
              have hS3 := hS2.st hb3
              have z1' := ((bcell hb3).1 _ _ (by omega)).trans z1
              have z2' := ((bcell hb3).1 _ _ (by omega)).trans z2
              go_wp2_with fail
              cases r1 : rnL (splitL 32 b) with
              | none =>
                (with_reducible refine (splitNumbers_none b 32 _ (by omega) hS3 r1).mono ?_)
                rintro e w4 ⟨rfl, hb4⟩
                have s4 := hb4.size
                have hB4 := hB3.trans (hb4.mono (by omega))
                have hS4 := hS3.st hb4
                have z2'' := ((bcell hb4).1 _ _ (by omega)).trans z2'
                go_wp2_with fail
                (with_reducible refine (splitNumbers_w c 32 _ (by omega) hS4).mono ?_)
                rintro e w5 ⟨A5, n5, c5, v5, rfl, hb5⟩
                have s5 := hb5.size
                have hB5 := hB4.trans (hb5.mono (by omega))
                have hS5 := hS4.st hb5
                have hno := Lib.hid (pl_none (hbad.out (lnO_b hPC r1)))
                have hB := Lib.hid (hb1H.out.trans (hB5.mono s1))
                clear hB5 bP
                go_wp2_with fail
                go_ret2
                rw [hno.out.1, hno.out.2]
                exact ⟨none, 0, rfl, OwnE.nil, by rw [esz_nil]; omega, hB.out⟩
              | some y =>
                (with_reducible refine (splitNumbers_yes b 32 _ (by omega) hS3 y r1).mono ?_)
                rintro e w4 ⟨A4, c4, rfl, ho4, hb4⟩
                have s4 := hb4.size
                have hB4 := hB3.trans (hb4.mono (by omega))
                have hS4 := hS3.st hb4
                have z2'' := ((bcell hb4).1 _ _ (by omega)).trans z2'
                go_wp2_with fail
                cases r2 : rnL (splitL 32 c) with
                | none =>
                  (with_reducible refine (splitNumbers_none c 32 _ (by omega) hS4 r2).mono ?_)
                  rintro e w5 ⟨rfl, hb5⟩
                  have s5 := hb5.size
                  have hB5 := hB4.trans (hb5.mono (by omega))
                  have hS5 := hS4.st hb5
                  have hno := Lib.hid (pl_none (hbad.out (lnO_c hPC r2)))
                  have hB := Lib.hid (hb1H.out.trans (hB5.mono s1))
                  clear hB5 bP
                  go_wp2_with fail
                  go_ret2
                  rw [hno.out.1, hno.out.2]
                  exact ⟨none, 0, rfl, OwnE.nil, by rw [esz_nil]; omega, hB.out⟩
                | some z =>
                  (with_reducible refine (splitNumbers_yes c 32 _ (by omega) hS4 z r2).mono ?_)
                  rintro e w5 ⟨A5, c5, rfl, ho5, hb5⟩
                  have s5 := hb5.size
                  have hB5 := hB4.trans (hb5.mono (by omega))
                  have hS5 := hS4.st hb5
                  by_cases h3 : hd.length = 3
                  · skip
                    obtain ⟨t, m, p, htmp⟩ : ∃ t m p, hd = [t, m, p] := by
                      match hd, h3 with
                      | [t, m, p], _ => exact ⟨t, m, p, rfl⟩
                    subst htmp
                    have hyes := Lib.hid (lnO_yes hPC r0 r1 r2)
                    have hsnoc := Lib.hid (lnL_snoc hlt hlnH.out (by rw [hL]; exact hyes.out))
                    obtain ⟨gh, ch', he, hh1, hh2, hh3, hhc, -⟩ := ho3.at_ (by simp)
                    obtain ⟨rfl, rfl⟩ : A3 = some ⟨gh, 0, none⟩ ∧ c3 = ch' := by injection he with e1 e2 e3; exact ⟨e1, e3⟩
                    have q0 := ((bcell hb5).1 _ _ (by omega)).trans (((bcell hb4).1 _ _ hh3).trans (hhc 0 (by simp)))
                    have q1 := ((bcell hb5).1 _ _ (by omega)).trans (((bcell hb4).1 _ _ hh3).trans (hhc 1 (by simp)))
                    have q2 := ((bcell hb5).1 _ _ (by omega)).trans (((bcell hb4).1 _ _ hh3).trans (hhc 2 (by simp)))
                    simp at q0 q1 q2
                    have hy5 := ho4.st hb5
                    have hrow : EntOwn w5 w3.heap.size w5.heap.size ⟨t, m, p, y, z⟩ [.int .i64 t, .int .i64 m, .int .i64 p, .slice A4 y.length c4, .slice A5 z.length c5] := ⟨_, _, rfl, hy5.mono (Nat.le_refl _) s5, ho5.mono s4 (Nat.le_refl _), Dj.of_lt hy5 ho5 (Nat.le_refl _)⟩
                    have hown5 := ((hownH.out.st hb3).st hb4).st hb5
                    have hen5 := ((henH.out.st hb3).st hb4).st hb5
                    have hdj : ∀ s ∈ rows, DjR s [.int .i64 t, .int .i64 m, .int .i64 p, .slice A4 y.length c4, .slice A5 z.length c5] := fun s hs => by
                      obtain ⟨e', he'⟩ := hen5.mem hs
                      exact he'.dj_lt hrow (by omega)
                    have ho35 := (ho3.st hb4).st hb5
                    have hgi : Hid (∀ cur, w5.heap[gh]? ≠ some (.cells cur 74 (0, 0))) := Lib.hid (fun cur hcur => ho35.ne_ent hcur (by simp [Value.ownBlock]))
                    have hrowH := Lib.hid hrow
                    have hdjH := Lib.hid hdj
                    have hown5H := Lib.hid hown5
                    have hen5H := Lib.hid hen5
                    have hB5H := Lib.hid hB5
                    have hcap3 : 3 ≤ c3 := by have := ho3.len.2; simpa using this
                    clear he hhc ho35 ho3 ho4 ho5 hb3 hb4 hb5 hy5 hrow hdj hown5 hen5 hownH henH h3 z0 z1 z2 z1' z2' z2'' bP hB2 hB3 hB4 hB5 hS2 hS3 hS4 hS5 hyes
                    go_wp2_with fail
                    go_region_held3 (fun w' => w'.cell? ⟨gh, 0, none⟩ = some (.int .i64 t) ∧ w'.cell? ⟨gh, 1, none⟩ = some (.int .i64 m) ∧ w'.cell? ⟨gh, 2, none⟩ = some (.int .i64 p))
                      (((try go_split_ands); (try dsimp only); (repeat' apply And.intro) <;> (first | assumption | ((refine (Below.cell (B := w5.heap.size) (w := w5) ?_ (by dsimp only; omega)).trans ?_) <;> first | assumption | (repeat first | exact Below.refl _ _ | refine Below.drew ?_ | refine Below.alloc ?_ (by first | omega | (simp <;> omega)) _)))))
                      (first
                        | (refine step_append_one (v := .slice Av k cv) rfl (.tmp 70) (.tmp 83) rfl rfl (by first | exact hown5H.out.alloc _ | exact (hown5H.out.alloc _).drew) rfl (row := [.int .i64 t, .int .i64 m, .int .i64 p, .slice A4 y.length c4, .slice A5 z.length c5]) (bk_cells (by first | exact Bk.new _ _ _ | exact (Bk.new _ _ _).drew)) rfl (by simp [Value.oneCell']) (by rw [hrlH.out]; omega) (by first | omega | (simp <;> omega)) ?_; intro v8 w8 ho8 hgx8 hb8 hat8;
                            (have j8 : ∀ o, w8.cell? ⟨gh, o, none⟩ = w5.cell? ⟨gh, o, none⟩ := fun o => (hgx8.cell_far ⟨gh, o, none⟩ (by simp <;> omega) (by intro e; obtain ⟨cur, hcur⟩ := hown5H.out.blockT _ e.symm; exact hgi.out cur hcur)).trans (World.cell?_alloc_lt w5 _ _ (by dsimp only; omega))); (have j80 := (j8 0).trans q0); (have j81 := (j8 1).trans q1); (have j82 := (j8 2).trans q2))
                        | fail)
                    have hOx := Lib.hid (show OwnR w8 w1.heap.size w8.heap.size 74 5 _ (rows ++ [[.int .i64 t, .int .i64 m, .int .i64 p, .slice A4 y.length c4, .slice A5 z.length c5]]) from ho8)
                    have hK := KeepI.grown (by first | exact hown5H.out.alloc _ | exact (hown5H.out.alloc _).drew) hgx8 (by decide)
                    have hent8 : EntsOwn w8 w1.heap.size w8.heap.size (es ++ [⟨t, m, p, y, z⟩]) (rows ++ [[.int .i64 t, .int .i64 m, .int .i64 p, .slice A4 y.length c4, .slice A5 z.length c5]]) := by
                      have s8 := hb8.size
                      simp at s8
                      exact ents_app (by first | exact hen5H.out.alloc _ | exact (hen5H.out.alloc _).keep (fun _ _ _ _ => rfl)) (by first | exact hrowH.out.keep (fun k _ _ h3 => Below.heap_alloc _ _ k h3)) hdjH.out hK (Nat.le_refl _) (by omega) (by omega) (by omega)
                    have hentH := Lib.hid hent8
                    have hBx : Below w1.heap.size w1 w8 := by first | exact ((hB5H.out.alloc (by omega) _).drew).trans hb8 | exact (hB5H.out.alloc (by omega) _).trans hb8
                    have hBxH := Lib.hid hBx
                    clear ho8 hgx8 hb8 hat8 hK hent8 hBx hown5H hen5H hB5H q0 q1 q2 j8 j80 j81 j82
                    go_wp2
                    go_roundw
                    case rel => exact ⟨k + 1, es ++ [⟨t, m, p, y, z⟩], _, by omega, by go_num, by simp [hesH.out], hsnoc.out, hOx.out, hentH.out, hBxH.out⟩
                    case measure => simp [intOf]; omega
                  · have hno := Lib.hid (pl_none (hbad.out (lnO_h hPC r0 h3)))
                    have hB := Lib.hid (hb1H.out.trans (hB5.mono s1))
                    clear hB5 bP
                    go_wp2_with fail
                    go_ret2
                    rw [hno.out.1, hno.out.2]
                    exact ⟨none, 0, rfl, OwnE.nil, by rw [esz_nil]; omega, hB.out⟩
          · have hno := Lib.hid (pl_none (hbad.out (lnO_len (by rw [hPC]; exact h3))))
            have hB := hb1H.out.trans (hB2.mono s1)
            clear hbr hb2 bP hPl
            go_wp2_with fail
            go_ret2
            rw [hno.out.1, hno.out.2]
            exact ⟨none, 0, rfl, OwnE.nil, by rw [esz_nil]; omega, hB⟩
        · obtain rfl : k = Ls.length := by omega
          rw [List.take_length] at hlnH
          have hpl2 := hps.out es hlnH.out
          have hsz : eszL es ≤ 1048576 := Nat.le_trans (ln_size hlnH.out) hlensH.out
          obtain ⟨v, hv⟩ : ∃ v, logB es = v := ⟨_, rfl⟩
          obtain ⟨R, hR⟩ : ∃ R, R = plL l := ⟨_, rfl⟩
          have hBv : plB l = v := by unfold plB; rw [hpl2, hv]; cases v <;> rfl
          have hLv : plL l = if v = true then es else [] := by unfold plL; rw [hpl2, hv]; cases v <;> rfl
          have hszR := Lib.hid (pl_size l hl)
          rw [← hR] at hLv hszR
          have hBvH := Lib.hid hBv
          have hRH := Lib.hid hR
          have hLvH := Lib.hid hLv
          have hvH := Lib.hid hv
          have hO := EntsOwn.ownE hown hen
          rw [← hesH.out] at hO
          have hrd := hO.rd'.std
          have hOH := Lib.hid hO
          have hbrH := Lib.hid (hb1H.out.trans (hbr.mono s1))
          have hbr2 := Lib.hid hbr
          clear hbr hown hen hBv hLv hv hpl2 hO hR
          go_wp2_with fail
          (with_reducible refine (checkedLog_v es Av Ls.length cv _ hrd hesH.out.symm hsz hvc _ hvH.out R hLvH.out).mono ?_)
          rintro e w6 ⟨A6, c6, rfl, hcs, hb6⟩
          have hB6 := Lib.hid (hbrH.out.trans (hb6.mono (Nat.le_trans s1 hszr)))
          have hO6 := Lib.hid ((hOH.out.st hb6).mono s1 hb6.size)
          clear hrd hb6
          go_wp2
          go_ret2
          rw [hBvH.out, ← hRH.out]
          refine ⟨A6, c6, rfl, ?_, hszR.out, hB6.out⟩
          have hRx := hLvH.out
          rcases hcs.out with ⟨hv, hA, hc⟩ | ⟨hv, hA, hc⟩
          · rw [if_pos hv] at hRx
            rw [hA, hc, hRx]
            exact hO6.out
          · rw [if_neg (by simp [hv])] at hRx
            rw [hA, hc, hRx]
            exact OwnE.nil
    · have hno := Lib.hid (pl_none (s := l) (by unfold plS; rw [if_neg hne, if_neg hla]))
      go_enter Tryz.func57, Tryz.ntmps57
      go_wp2_with fail
      (with_reducible refine (linesOf_no l _ hl hne hla).mono ?_)
      rintro e w1 ⟨rfl, rfl⟩
      go_wp2
      go_ret2
      rw [hno.out.1, hno.out.2]
      exact ⟨none, 0, rfl, OwnE.nil, by rw [esz_nil]; omega, Below.refl _ _⟩
end Go.Proofs.YtjhbffndiaggmaaGreatDoor
