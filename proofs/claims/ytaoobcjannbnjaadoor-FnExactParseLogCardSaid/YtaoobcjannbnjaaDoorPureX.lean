/-
  Reading the text of a log: plain laws. A text is read exactly if it is the text of what is read. No function of the program stands here.
-/
import Derived.Test.YtaoobcjannbnjaaDoorPureW
import Derived.Test.YtaoobcjannbnjaaDoorLgText
namespace Go.Proofs.YtaoobcjannbnjaaDoor
set_option linter.unusedVariables false
set_option linter.unusedSimpArgs false

/-! ### a text split at ' : ' -/
def sep3 : List UInt8 := [32, 58, 32]
theorem pre3 {l : List UInt8} (h : sep3.isPrefixOf l = true) : ∃ t, l = 32 :: 58 :: 32 :: t := by
  obtain ⟨t, ht⟩ := List.isPrefixOf_iff_prefix.1 h
  exact ⟨t, ht.symm⟩
theorem idx3_free : ∀ {l : List UInt8}, (58 : UInt8) ∉ l → Lib.index l sep3 = -1
  | [], _ => rfl
  | x :: l, h => by
    have h2 := idx3_free (l := l) (fun e => h (List.mem_cons_of_mem _ e))
    unfold Lib.index
    rw [if_neg ?_, h2]
    · rfl
    · intro hp
      obtain ⟨t, ht⟩ := pre3 hp
      exact h (by rw [ht]; simp)
theorem idx3_sep : ∀ {p : List UInt8} (r : List UInt8), (58 : UInt8) ∉ p → Lib.index (p ++ 32 :: 58 :: 32 :: r) sep3 = (p.length : Int)
  | [], r, _ => by
    show Lib.index (32 :: 58 :: 32 :: r) sep3 = _
    unfold Lib.index
    rw [if_pos (by simp [List.isPrefixOf, sep3])]; rfl
  | x :: p, r, h => by
    have h2 := idx3_sep (p := p) r (fun e => h (List.mem_cons_of_mem _ e))
    show Lib.index (x :: (p ++ 32 :: 58 :: 32 :: r)) sep3 = _
    unfold Lib.index
    rw [if_neg ?_, h2, if_neg (by simp)]
    · simp
    · intro hp
      obtain ⟨t, ht⟩ := pre3 hp
      simp only [List.cons.injEq] at ht
      cases p with
      | nil =>
        have := ht.2
        simp at this
      | cons y q =>
        have := ht.2
        simp only [List.cons_append, List.cons.injEq] at this
        exact h (by rw [this.1]; simp)
def pieces3 (l : List UInt8) : List (List UInt8) := Lib.splitK sep3 0 (Lib.count l sep3) l
theorem join_splitK (sep : List UInt8) : ∀ (N : Nat) (l : List UInt8), Lib.join (Lib.splitK sep 0 N l) sep = l
  | 0, l => Lib.join_one _ _
  | N + 1, l => by
    unfold Lib.splitK
    rcases Lib.index_spec l sep with ⟨h1, _⟩ | ⟨i, h1, h2, h3, _⟩
    · rw [if_pos (beq_iff_eq.2 h1)]; exact Lib.join_one _ _
    · rw [if_neg (fun e => by have := beq_iff_eq.1 e; omega), h1]
      have ih := join_splitK sep N (l.drop ((i : Int).toNat + sep.length))
      have hne : Lib.splitK sep 0 N (l.drop ((i : Int).toNat + sep.length)) ≠ [] := by
        cases N with
        | zero => simp [Lib.splitK]
        | succ N => unfold Lib.splitK; split <;> simp
      have hocc : l.drop i = sep ++ l.drop (i + sep.length) := by
        obtain ⟨t, ht⟩ := List.isPrefixOf_iff_prefix.1 (show sep.isPrefixOf (l.drop i) = true from h3)
        have : l.drop (i + sep.length) = t := by rw [← List.drop_drop, ← ht]; simp
        rw [this, ht]
      cases hs : Lib.splitK sep 0 N (l.drop ((i : Int).toNat + sep.length)) with
      | nil => exact absurd hs hne
      | cons x r =>
        rw [hs, Lib.join_cons] at ih
        rw [Lib.join_cons]
        have e1 : Lib.joinTail sep (x :: r) = sep ++ (x ++ Lib.joinTail sep r) := by simp [Lib.joinTail]
        have e2 : (i : Int).toNat = i := by simp
        rw [e1, ih, e2, ← hocc, Nat.add_zero, List.take_append_drop]
theorem join_pieces3 (l : List UInt8) : Lib.join (pieces3 l) sep3 = l := join_splitK _ _ _
theorem pieces3_eq {a b c : List UInt8} (ha : (58 : UInt8) ∉ a) (hb : (58 : UInt8) ∉ b) (hc : (58 : UInt8) ∉ c) :
    pieces3 (a ++ 32 :: 58 :: 32 :: (b ++ 32 :: 58 :: 32 :: c)) = [a, b, c] := by
  have d1 : ∀ (p r : List UInt8), (p ++ 32 :: 58 :: 32 :: r).drop (p.length + sep3.length) = r := fun p r => by simp [sep3]
  have e1 : Lib.count (a ++ 32 :: 58 :: 32 :: (b ++ 32 :: 58 :: 32 :: c)) sep3 = 2 := by
    rw [Lib.count_hit (by simp [sep3]) (idx3_sep _ ha), d1, Lib.count_hit (by simp [sep3]) (idx3_sep _ hb), d1, Lib.count_miss (idx3_free hc)]
  unfold pieces3
  rw [e1]
  unfold Lib.splitK
  rw [if_neg (fun e => by have := beq_iff_eq.1 e; rw [idx3_sep _ ha] at this; omega), idx3_sep _ ha]
  unfold Lib.splitK
  have e2 : ((a.length : Int).toNat + sep3.length) = a.length + sep3.length := by simp
  rw [e2, d1, if_neg (fun e => by have := beq_iff_eq.1 e; rw [idx3_sep _ hb] at this; omega), idx3_sep _ hb]
  have e3 : ((b.length : Int).toNat + sep3.length) = b.length + sep3.length := by simp
  rw [e3, d1]
  simp [Lib.splitK]
theorem split3_pieces (l : List UInt8) : Lib.countB (str l) (str sep3) = Lib.count l sep3 ∧ Lib.splitB (str sep3) 0 (Lib.countB (str l) (str sep3)) (str l) = (pieces3 l).map str := by
  have h1 : Lib.countB (str l) (str sep3) = Lib.count l sep3 := by
    show Lib.count (str l).data.toList (str sep3).data.toList = _
    rw [str_toList, str_toList]
  refine ⟨h1, ?_⟩
  rw [h1]
  have h2 := Lib.splitB_data (str sep3) 0 (Lib.count l sep3) (str l)
  rw [str_toList, str_toList] at h2
  unfold pieces3
  rw [← h2, List.map_map]
  conv => lhs; rw [← List.map_id (Lib.splitB (str sep3) 0 (Lib.count l sep3) (str l))]
  exact List.map_congr_left fun s _ => (str_of s).symm
theorem pieces3_length (l : List UInt8) : (pieces3 l).length = Lib.count l sep3 + 1 := by
  have key : ∀ (n : Nat) (l : List UInt8), l.length ≤ n → (pieces3 l).length = Lib.count l sep3 + 1 := by
    intro n
    induction n with
    | zero =>
      intro l h
      have : l = [] := List.eq_nil_of_length_eq_zero (by omega)
      subst this
      rfl
    | succ n ih =>
      intro l h
      rcases Lib.index_spec l sep3 with ⟨h1, _⟩ | ⟨i, h1, h2, h3, _⟩
      · unfold pieces3; rw [Lib.count_miss h1]; rfl
      · have hc := Lib.count_hit (s := l) (sub := sep3) (by simp [sep3]) h1
        have hr := Lib.occAt_room h3
        have h4 := ih (l.drop (i + sep3.length)) (by
          rw [List.length_drop]
          rcases hr with hr | hr
          · have : sep3.length = 3 := rfl
            omega
          · exact absurd hr (by simp [sep3]))
        unfold pieces3 at h4 ⊢
        rw [hc, Nat.add_comm 1]
        unfold Lib.splitK
        rw [if_neg (fun e => by have := beq_iff_eq.1 e; omega), h1]
        have e2 : ((i : Int).toNat + sep3.length) = i + sep3.length := by simp
        rw [e2, List.length_cons, h4]
  exact key l.length l (Nat.le_refl _)

/-! ### a line, as the program reads it -/
theorem p5_eq (e : Ent) : p5 e = p1 e ++ 32 :: 58 :: 32 :: (joinS e.seen [32] ++ 32 :: 58 :: 32 :: joinS e.shown [32]) := by
  unfold p5 p4 p3 p2; simp
def lnO (l : List UInt8) : Option Ent :=
  match pieces3 l with
  | [a, b, c] => match rnL (splitL 32 a), rnL (splitL 32 b), rnL (splitL 32 c) with
    | some [t, m, p], some y, some z => some ⟨t, m, p, y, z⟩
    | _, _, _ => none
  | _ => none
theorem lnO_text {l : List UInt8} {e : Ent} (h : lnO l = some e) : p5 e = l := by
  unfold lnO at h
  split at h
  · rename_i a b c hp
    split at h
    · rename_i t m p y z h1 h2 h3
      obtain rfl := Option.some.inj h
      have hj := join_pieces3 l
      rw [hp] at hj
      rw [p5_eq]
      unfold p1
      simp only
      rw [← (rnL_text h1).1, ← (rnL_text h2).1, ← (rnL_text h3).1, ← hj, Lib.join_cons]
      simp [Lib.joinTail, sep3]
    · cases h
  · cases h
/-- a valid entry -/
structure EnU (e : Ent) : Prop where
  t : 0 ≤ e.time ∧ e.time ≤ 10000
  m : 1 ≤ e.msg ∧ e.msg ≤ 999
  p : 0 ≤ e.part ∧ e.part ≤ 8
  sn : e.seen ≠ [] ∧ ∀ n ∈ e.seen, 0 ≤ n ∧ n ≤ 63
  sh : e.shown ≠ [] ∧ ∀ n ∈ e.shown, 0 ≤ n ∧ n ≤ 63
theorem sg_u {zs : List Int} (h : sgB zs = true) : zs ≠ [] ∧ ∀ n ∈ zs, 0 ≤ n ∧ n ≤ 63 := by
  simp only [sgB, Bool.and_eq_true, inB_iff] at h
  refine ⟨fun e => by subst e; simp at h, fun n hn => ?_⟩
  obtain ⟨k, hk, rfl⟩ := List.getElem_of_mem hn
  exact allB_iff.1 h.2 k hk
theorem ent_u {es : List Ent} (h : logB es = true) : ∀ e ∈ es, EnU e := fun e he => by
  obtain ⟨k, hk, rfl⟩ := List.getElem_of_mem he
  obtain ⟨h1, h2, h3, h4, h5, _⟩ := log_at h k hk
  exact ⟨h1, h2, h3, sg_u h4, sg_u h5⟩
theorem EnU.three {e : Ent} (h : EnU e) : ∀ n ∈ [e.time, e.msg, e.part], 0 ≤ n ∧ n ≤ 10000 := by
  obtain ⟨h1, h2, h3, _, _⟩ := h
  intro n hn
  simp only [List.mem_cons, List.not_mem_nil, or_false] at hn
  rcases hn with rfl | rfl | rfl <;> omega
theorem EnU.free {e : Ent} (h : EnU e) {c : UInt8} (hc : ¬ c = 32) (hb : c.toNat < 48 ∨ 57 < c.toNat) : c ∉ p1 e ∧ c ∉ joinS e.seen [32] ∧ c ∉ joinS e.shown [32] :=
  ⟨joinS_free hc hb fun n hn => by have := h.three n hn; omega, joinS_free hc hb fun n hn => by have := h.sn.2 n hn; omega, joinS_free hc hb fun n hn => by have := h.sh.2 n hn; omega⟩
theorem lnO_of {e : Ent} (h : EnU e) : lnO (p5 e) = some e := by
  obtain ⟨f1, f2, f3⟩ := h.free (c := 58) (by decide) (.inr (by decide))
  have e1 : rnL (splitL 32 (p1 e)) = some [e.time, e.msg, e.part] := rnL_join (by decide) (by simp) fun n hn => by have := h.three n hn; omega
  have e2 := rnL_join (b := 32) (by decide) h.sn.1 fun n hn => by have := h.sn.2 n hn; omega
  have e3 := rnL_join (b := 32) (by decide) h.sh.1 fun n hn => by have := h.sh.2 n hn; omega
  unfold lnO
  rw [p5_eq, pieces3_eq f1 f2 f3]
  simp only [e1, e2, e3]

/-! ### the lines of a log's text -/
def lnL : List (List UInt8) → Option (List Ent)
  | [] => some []
  | p :: ps => match lnO p, lnL ps with
    | some n, some ns => some (n :: ns)
    | _, _ => none
theorem lnL_some : ∀ {ps : List (List UInt8)} {ns : List Ent}, lnL ps = some ns → ps.map lnO = ns.map some
  | [], ns, h => by obtain rfl := Option.some.inj h; rfl
  | p :: ps, ns, h => by
    unfold lnL at h
    split at h
    · rename_i n ns' h1 h2
      obtain rfl := Option.some.inj h
      rw [List.map_cons, List.map_cons, h1, lnL_some h2]
    · cases h
theorem lnL_none : ∀ {ps : List (List UInt8)}, lnL ps = none → ∃ (k : Nat) (ns : List Ent) (h : k < ps.length), ns.length = k ∧ (ps.take k).map lnO = ns.map some ∧ lnO ps[k] = none
  | [], h => by cases h
  | p :: ps, h => by
    cases hp : lnO p with
    | none => exact ⟨0, [], by simp, rfl, rfl, by simpa using hp⟩
    | some n =>
      cases hs : lnL ps with
      | some ns => simp [lnL, hp, hs] at h
      | none =>
        obtain ⟨k, ns, hk, hl, hm, he⟩ := lnL_none hs
        exact ⟨k + 1, n :: ns, by simp; omega, by simp [hl], by rw [List.take_succ_cons, List.map_cons, List.map_cons, hp, hm], by simpa using he⟩
theorem lnL_of : ∀ {es : List Ent}, (∀ e ∈ es, EnU e) → lnL (es.map p5) = some es
  | [], _ => rfl
  | e :: es, h => by rw [List.map_cons, lnL, lnO_of (h e (by simp)), lnL_of fun x hx => h x (by simp [hx])]
theorem lnL_text {ps : List (List UInt8)} {es : List Ent} (h : lnL ps = some es) : ps = es.map p5 := by
  have h1 := lnL_some h
  refine List.ext_getElem (by simpa using congrArg List.length h1) fun k hk1 hk2 => ?_
  have hk3 : k < es.length := by simpa using hk2
  have h3 := congrArg (fun x => x[k]?) h1
  simp only [List.getElem?_map, List.getElem?_eq_getElem hk1, List.getElem?_eq_getElem hk3, Option.map_some, Option.some.injEq] at h3
  rw [List.getElem_map]
  exact (lnO_text h3).symm
/-- pieces without the byte, joined by it, split at it -/
theorem splitL_join {b : UInt8} : ∀ {ps : List (List UInt8)}, ps ≠ [] → (∀ p ∈ ps, b ∉ p) → splitL b (Lib.join ps [b]) = ps
  | [], h, _ => absurd rfl h
  | [p], _, h => by rw [Lib.join_one, splitL_free (h p (by simp))]
  | p :: q :: r, _, h => by
    have h2 := splitL_join (b := b) (ps := q :: r) (by simp) (fun x hx => h x (List.mem_cons_of_mem _ hx))
    have e : Lib.join (p :: q :: r) [b] = p ++ b :: Lib.join (q :: r) [b] := by
      rw [Lib.join_cons, Lib.join_cons]; simp [Lib.joinTail]
    rw [e, splitL_sep _ (h p (by simp)), h2]
def ltX (es : List Ent) : List UInt8 := ltTo es es.length
theorem ltX_eq (es : List Ent) : ltX es = (es.map p6).flatten := by unfold ltX ltTo; rw [List.take_length]
theorem ltX_nil : ltX [] = [] := rfl
theorem ltX_body : ∀ {es : List Ent}, es ≠ [] → ltX es = Lib.join (es.map p5) [10] ++ [10]
  | [], h => absurd rfl h
  | [e], _ => by rw [ltX_eq]; simp [p6, Lib.join_one]
  | e :: f :: r, _ => by
    have ih := ltX_body (es := f :: r) (by simp)
    rw [ltX_eq] at ih ⊢
    rw [List.map_cons, List.flatten_cons, ih, List.map_cons, List.map_cons, Lib.join_cons, List.map_cons, Lib.join_cons]
    simp [p6, Lib.joinTail]
theorem p5_free {e : Ent} (h : EnU e) : (10 : UInt8) ∉ p5 e := by
  obtain ⟨f1, f2, f3⟩ := h.free (c := 10) (by decide) (.inl (by decide))
  rw [p5_eq]
  simp [f1, f2, f3]
/-- the log that a text holds: as the program reads it -/
def plS (s : List UInt8) : Option (List Ent) :=
  if s = [] then some [] else
  if s.getLast? = some 10 then
    match lnL (splitL 10 s.dropLast) with
    | some es => if logB es = true then some es else none
    | none => none
  else none
theorem dl_snoc {s : List UInt8} {b : UInt8} (h : s.getLast? = some b) : s = s.dropLast ++ [b] := by
  obtain ⟨r, rfl⟩ := List.getLast?_eq_some_iff.1 h
  simp
theorem plS_text {s : List UInt8} {es : List Ent} (h : plS s = some es) : logB es = true ∧ ltX es = s := by
  unfold plS at h
  split at h
  · rename_i hs
    obtain rfl := Option.some.inj h
    subst hs
    exact ⟨by decide +kernel, rfl⟩
  · split at h
    · rename_i hl
      split at h
      · rename_i es' h1
        split at h
        · rename_i hg
          obtain rfl := Option.some.inj h
          refine ⟨hg, ?_⟩
          have h2 := lnL_text h1
          have hne : es' ≠ [] := fun e => by subst e; exact splitL_ne _ _ h2
          rw [ltX_body hne, ← h2, join_splitL]
          exact (dl_snoc hl).symm
        · cases h
      · cases h
    · cases h
theorem plS_of {es : List Ent} (h : logB es = true) : plS (ltX es) = some es := by
  by_cases he : es = []
  · subst he; rfl
  · have hu := ent_u h
    have hne : es.map p5 ≠ [] := by simpa using he
    unfold plS
    rw [ltX_body he, if_neg (by simp), if_pos (by simp), List.dropLast_concat, splitL_join hne fun p hp => by
      obtain ⟨e, he2, rfl⟩ := List.mem_map.1 hp
      exact p5_free (hu e he2), lnL_of hu]
    simp [h]
theorem ltX_split {es : List Ent} (h : logB es = true) : splitL 10 (ltX es) = es.map p5 ++ [[]] := by
  by_cases he : es = []
  · subst he; rfl
  · have hu := ent_u h
    have hne : es.map p5 ≠ [] := by simpa using he
    rw [ltX_body he, splitL_snoc_sep, splitL_join hne fun p hp => by
      obtain ⟨e, he2, rfl⟩ := List.mem_map.1 hp
      exact p5_free (hu e he2)]

/-! ### the reference's reading -/
/-- the numbers of a part of a line, blanks passed over -/
def lgN (s : List UInt8) : List Int := ((splitL 32 s).filter fun p => !p.isEmpty).map l1R
theorem filter_nums {l : List Int} (h : ∀ n ∈ l, 0 ≤ n) : (l.map numS).filter (fun p => !p.isEmpty) = l.map numS := by
  rw [List.filter_eq_self]
  intro p hp
  obtain ⟨n, hn, rfl⟩ := List.mem_map.1 hp
  have := numS_ne (h n hn)
  simpa using this
theorem lgN_join {l : List Int} (h : ∀ n ∈ l, 0 ≤ n ∧ n < 1000000) : lgN (joinS l [32]) = l := by
  unfold lgN
  by_cases hl : l = []
  · subst hl; rfl
  · rw [splitL_joinS (by decide) l hl fun n hn => by have := h n hn; omega, filter_nums fun n hn => (h n hn).1, map_l1R h]
theorem lgN_snoc (s : List UInt8) : lgN (s ++ [32]) = lgN s := by
  unfold lgN; rw [splitL_snoc_sep, List.filter_append]; simp
theorem lgN_cons (s : List UInt8) : lgN (32 :: s) = lgN s := by
  unfold lgN
  have : splitL 32 (32 :: s) = [] :: splitL 32 s := splitL_sep (b := 32) (l := []) s (by simp)
  rw [this]; simp
def rlO (l : List UInt8) : Option Ent :=
  match splitL 58 l with
  | [a, b, c] => match lgN a with
    | [t, m, p] => some ⟨t, m, p, lgN b, lgN c⟩
    | _ => none
  | _ => none
theorem rlO_of {e : Ent} (h : EnU e) : rlO (p5 e) = some e := by
  obtain ⟨f1, f2, f3⟩ := h.free (c := 58) (by decide) (.inr (by decide))
  have hs : splitL 58 (p5 e) = [p1 e ++ [32], 32 :: (joinS e.seen [32] ++ [32]), 32 :: joinS e.shown [32]] := by
    have e0 : p5 e = (p1 e ++ [32]) ++ 58 :: ((32 :: (joinS e.seen [32] ++ [32])) ++ 58 :: (32 :: joinS e.shown [32])) := by rw [p5_eq]; simp
    rw [e0, splitL_sep _ (by simp [f1]), splitL_sep _ (by simp [f2]), splitL_free (by simp [f3])]
  have e1 : lgN (p1 e ++ [32]) = [e.time, e.msg, e.part] := by
    rw [lgN_snoc]; exact lgN_join fun n hn => by have := h.three n hn; omega
  have e2 : lgN (32 :: (joinS e.seen [32] ++ [32])) = e.seen := by
    rw [lgN_cons, lgN_snoc]; exact lgN_join fun n hn => by have := h.sn.2 n hn; omega
  have e3 : lgN (32 :: joinS e.shown [32]) = e.shown := by
    rw [lgN_cons]; exact lgN_join fun n hn => by have := h.sh.2 n hn; omega
  unfold rlO
  rw [hs]
  simp only [e1, e2, e3]
theorem pl_many {s : List UInt8} (h : 31 < (splitL 10 s).length) : plS s = none := by
  cases hs : plS s with
  | none => rfl
  | some es =>
    obtain ⟨hg, rfl⟩ := plS_text hs
    rw [ltX_split hg] at h
    have := log_len hg
    simp at h
    omega
theorem pl_bad {s : List UInt8} {k : Nat} (hk : k + 1 < (splitL 10 s).length) (h : rlO (splitL 10 s)[k] = none) : plS s = none := by
  cases hs : plS s with
  | none => rfl
  | some es =>
    obtain ⟨hg, rfl⟩ := plS_text hs
    have h1 := ltX_split hg
    have hk2 : k < es.length := by rw [h1] at hk; simpa using hk
    have h2 : (splitL 10 (ltX es))[k] = p5 es[k] := by simp only [h1]; rw [List.getElem_append_left (by simpa using hk2)]; simp
    rw [h2, rlO_of (ent_u hg _ (List.getElem_mem hk2))] at h
    cases h
theorem pl_read {s : List UInt8} {es : List Ent} (h : (splitL 10 s).dropLast.map rlO = es.map some) : plS s = if logB es = true ∧ ltX es = s then some es else none := by
  split
  · rename_i h1
    conv => lhs; rw [← h1.2]
    exact plS_of h1.1
  · rename_i h1
    cases hp : plS s with
    | none => rfl
    | some es2 =>
      obtain ⟨hg, rfl⟩ := plS_text hp
      rw [ltX_split hg, List.dropLast_concat, List.map_map] at h
      have h2 : es2.map (rlO ∘ p5) = es2.map some := List.map_congr_left fun e he => rlO_of (ent_u hg e he)
      rw [h2] at h
      have h3 : es2 = es := by
        refine List.ext_getElem (by simpa using congrArg List.length h) fun k hk1 hk2 => ?_
        have h3 := congrArg (fun x => x[k]?) h
        simpa [hk1, hk2] using h3
      subst h3
      exact absurd ⟨hg, rfl⟩ h1
def plB (s : List UInt8) : Bool := (plS s).isSome
def plL (s : List UInt8) : List Ent := (plS s).getD []
theorem pl_some {s : List UInt8} {es : List Ent} (h : plS s = some es) : plB s = true ∧ plL s = es := by simp [plB, plL, h]
theorem pl_none {s : List UInt8} (h : plS s = none) : plB s = false ∧ plL s = [] := by simp [plB, plL, h]
end Go.Proofs.YtaoobcjannbnjaaDoor
