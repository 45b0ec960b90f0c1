/-
  The plain layer of the library's stable sort, its second part: the halves of a merge; blocks that grow. No program here; no conditions beyond index bounds.
-/
import Derived.Test.YteajjbfecpffeaaStab
namespace Go.Proofs.Yteajjbfecpffeaa
open Go.Sort
set_option linter.unusedVariables false
set_option linter.unusedSimpArgs false
set_option linter.unusedSectionVars false
variable {α : Type} [Inhabited α] {lt : α → α → Bool} {tag : α → Nat}

theorem bef_le_l (hS : SWO lt) {x y z : α} (h : x = y ∨ bef lt tag x y) (h2 : bef lt tag y z) : bef lt tag x z := by
  rcases h with h | h
  · rw [h]; exact h2
  · exact bef_trans hS h h2
theorem bef_le_r (hS : SWO lt) {x y z : α} (h : bef lt tag x y) (h2 : y = z ∨ bef lt tag y z) : bef lt tag x z := by
  rcases h2 with h2 | h2
  · rw [← h2]; exact h
  · exact bef_trans hS h h2
theorem Ord.le' {a b i j : Nat} {d : Array α} (h : Ord lt tag a b d) (h1 : a ≤ i) (h2 : i ≤ j) (h3 : j < b) : d[i]! = d[j]! ∨ bef lt tag d[i]! d[j]! := by
  rcases h.le h1 h2 h3 with e | e
  · exact .inl (by rw [e])
  · exact .inr e
/-- what the binary search has found parts both runs -/
theorem Cut.found (hS : SWO lt) {a s m e b : Nat} {d : Array α} (o1 : Ord lt tag a m d) (o2 : Ord lt tag m b d) (o3 : Sep tag a m b d) (has : a ≤ s) (hsm : s ≤ m) (hme : m ≤ e) (heb : e ≤ b)
    (h1 : s = a ∨ e = b ∨ lt d[e]! d[s - 1]! = false) (h2 : s = m ∨ e = m ∨ lt d[e - 1]! d[s]! = true) : Cut lt tag a s m e b d := by
  refine ⟨fun i j x y z u => ?_, fun i j x y z u => ?_⟩
  · rcases h1 with h1 | h1 | h1
    · omega
    · omega
    · have hb : bef lt tag d[s - 1]! d[e]! := bef_no (o3 _ _ (by omega) (by omega) (by omega) (by omega)) h1
      exact bef_le_r hS (bef_le_l hS (o1.le' x (by omega) (by omega)) hb) (o2.le' (by omega) z u)
  · rcases h2 with h2 | h2 | h2
    · omega
    · omega
    · have hb : bef lt tag d[e - 1]! d[s]! := bef_yes h2
      exact bef_le_r hS (bef_le_l hS (o2.le' x (by omega) (by omega)) hb) (o1.le' (by omega) z u)
/-- both halves put in order by themselves -/
theorem join_halves {a mid b : Nat} {d1 d2 d3 : Array α} (hc : ∀ i j, a ≤ i → i < mid → mid ≤ j → j < b → bef lt tag d1[i]! d1[j]!) (p2 : PermIn a mid d1 d2) (o2 : Ord lt tag a mid d2) (p3 : PermIn mid b d2 d3) (o3 : Ord lt tag mid b d3) (ham : a ≤ mid) (hmb : mid ≤ b) (hb : b ≤ d1.size) :
    Ord lt tag a b d3 ∧ PermIn a b d1 d3 := by
  have c2 : ∀ i j, a ≤ i → i < mid → mid ≤ j → j < b → bef lt tag d2[i]! d2[j]! := fun i j x y z u => by
    rw [p2.2.1 j (by omega)]
    exact permIn_all d1 d2 a mid (fun v => bef lt tag v d1[j]!) (by omega) p2 (fun t e f => hc t j e f z u) i x y
  have c3 : ∀ i j, a ≤ i → i < mid → mid ≤ j → j < b → bef lt tag d3[i]! d3[j]! := fun i j x y z u => by
    rw [p3.2.1 i (by omega)]
    exact permIn_all d2 d3 mid b (fun v => bef lt tag d2[i]! v) (by rw [p2.1]; omega) p3 (fun t e f => c2 i t x y e f) j z u
  refine ⟨Ord.join (o2.same fun t x y => p3.2.1 t (by omega)) o3 c3, ?_⟩
  exact permIn_trans _ _ _ _ _ (permIn_mono _ _ _ _ _ _ (Nat.le_refl _) hmb hb p2) (permIn_mono _ _ _ _ _ _ ham (Nat.le_refl _) (by rw [p2.1]; exact hb) p3)

/-! ### blocks that grow -/
/-- every block of s is in order -/
def BOrd (lt : α → α → Bool) (tag : α → Nat) (s n : Nat) (d : Array α) : Prop := ∀ q, Ord lt tag (q * s) (min (q * s + s) n) d
theorem BOrd.all {s n : Nat} {d : Array α} (h : BOrd lt tag s n d) (hs : n ≤ s) : Ord lt tag 0 n d := by
  have := h 0
  rwa [Nat.zero_mul, Nat.zero_add, Nat.min_eq_right hs] at this
/-- q blocks of twice s are in order, the rest are in order in blocks of s, and stand where they stood -/
structure Half (lt : α → α → Bool) (tag : α → Nat) (s n q : Nat) (d : Array α) : Prop where
  done : ∀ p, p < q → Ord lt tag (p * (s * 2)) (p * (s * 2) + s * 2) d
  todo : ∀ r, q * 2 ≤ r → Ord lt tag (r * s) (min (r * s + s) n) d
  tags : ∀ i, q * (s * 2) ≤ i → i < n → tag d[i]! / s = i / s
  tags2 : InBlk tag (s * 2) n d
theorem Half.start {s n : Nat} {d : Array α} (h : BOrd lt tag s n d) (ht : InBlk tag s n d) : Half lt tag s n 0 d :=
  ⟨fun p hp => by omega, fun r _ => h r, fun i _ hi => ht i hi, ht.double⟩
theorem two_mul' (q s : Nat) : q * 2 * s = q * (s * 2) := by rw [Nat.mul_assoc, Nat.mul_comm 2 s]
/-- what the merge of block q asks -/
theorem Half.asks {s n q b : Nat} {d : Array α} (h : Half lt tag s n q d) (hs : 0 < s) (hm : q * (s * 2) + s < b) (hb : b ≤ n) (hb2 : b ≤ q * (s * 2) + s * 2) (hbn : b = n ∨ b = q * (s * 2) + s * 2) :
    Ord lt tag (q * (s * 2)) (q * (s * 2) + s) d ∧ Ord lt tag (q * (s * 2) + s) b d ∧ Sep tag (q * (s * 2)) (q * (s * 2) + s) b d := by
  have e := two_mul' q s
  have t1 := h.todo (q * 2) (Nat.le_refl _)
  have t2 := h.todo (q * 2 + 1) (by omega)
  rw [Nat.add_mul, Nat.one_mul, e] at t2
  rw [e] at t1
  refine ⟨fun i j x y z => t1 i j x y (by omega), fun i j x y z => t2 i j x y (by omega), fun i j x y z u => ?_⟩
  have h1 := h.tags i x (by omega)
  have h2 := h.tags j (by omega) (by omega)
  have e1 : i / s = q * 2 := Nat.div_eq_of_lt_le (by rw [e]; exact x) (by rw [Nat.add_mul, Nat.one_mul, e]; exact y)
  have e2 : q * 2 + 1 ≤ j / s := (Nat.le_div_iff_mul_le hs).2 (by rw [Nat.add_mul, Nat.one_mul, e]; exact z)
  by_cases hc : tag d[i]! < tag d[j]!
  · exact hc
  · have := Nat.div_le_div_right (c := s) (Nat.le_of_not_lt hc)
    omega
theorem Half.step {s n q : Nat} {d d' : Array α} (h : Half lt tag s n q d) (hs : 0 < s) (hn : n = d.size) (hb : q * (s * 2) + s * 2 ≤ n) (hp : PermIn (q * (s * 2)) (q * (s * 2) + s * 2) d d') (ho : Ord lt tag (q * (s * 2)) (q * (s * 2) + s * 2) d') : Half lt tag s n (q + 1) d' := by
  have e : (q + 1) * (s * 2) = q * (s * 2) + s * 2 := by rw [Nat.add_mul, Nat.one_mul]
  refine ⟨fun p hpq => ?_, fun r hr => ?_, fun i x y => ?_, h.tags2.perm (q := q) (by omega) hp hn hb (Nat.le_refl _) (Nat.le_refl _)⟩
  · by_cases hc : p = q
    · subst hc; exact ho
    · have hle : (p + 1) * (s * 2) ≤ q * (s * 2) := Nat.mul_le_mul_right _ (by omega)
      rw [Nat.add_mul, Nat.one_mul] at hle
      exact (h.done p (by omega)).same fun t x y => hp.2.1 t (by omega)
  · have hle : (q + 1) * 2 * s ≤ r * s := Nat.mul_le_mul_right _ hr
    rw [two_mul', e] at hle
    exact (h.todo r (by omega)).same fun t x y => hp.2.1 t (by omega)
  · rw [e] at x
    rw [hp.2.1 i (by omega)]; exact h.tags i (by omega) y
/-- the last block, merged or of one block of s alone -/
theorem Half.last {s n q : Nat} {d d' : Array α} (h : Half lt tag s n q d) (hs : 0 < s) (hn : n = d.size) (hq : q * (s * 2) ≤ n) (hb : n < q * (s * 2) + s * 2) (hp : PermIn (q * (s * 2)) n d d') (ho : Ord lt tag (q * (s * 2)) n d') : BOrd lt tag (s * 2) n d' ∧ InBlk tag (s * 2) n d' := by
  refine ⟨fun p => ?_, h.tags2.perm (q := q) (by omega) hp hn (Nat.le_refl _) (Nat.le_refl _) (by omega)⟩
  by_cases h1 : p < q
  · have hle : (p + 1) * (s * 2) ≤ q * (s * 2) := Nat.mul_le_mul_right _ (by omega)
    rw [Nat.add_mul, Nat.one_mul] at hle
    rw [Nat.min_eq_left (by omega)]
    exact (h.done p h1).same fun t x y => hp.2.1 t (by omega)
  · by_cases h2 : p = q
    · subst h2
      rw [Nat.min_eq_right (by omega)]; exact ho
    · have hle : (q + 1) * (s * 2) ≤ p * (s * 2) := Nat.mul_le_mul_right _ (by omega)
      rw [Nat.add_mul, Nat.one_mul] at hle
      exact Ord.nil _ _ _ (by omega)
theorem Half.lone {s n q : Nat} {d : Array α} (h : Half lt tag s n q d) (hs : n ≤ q * (s * 2) + s) : Ord lt tag (q * (s * 2)) n d := by
  have t1 := h.todo (q * 2) (Nat.le_refl _)
  rw [two_mul'] at t1
  exact fun i j x y z => t1 i j x y (by omega)
/-- the first round: q blocks of s are in order, the rest is as it was -/
structure First (lt : α → α → Bool) (tag : α → Nat) (s n q : Nat) (d0 d : Array α) : Prop where
  done : ∀ p, p < q → Ord lt tag (p * s) (p * s + s) d
  rest : ∀ i, q * s ≤ i → d[i]! = d0[i]!
  tags : InBlk tag s n d
theorem First.start {s n : Nat} {d0 : Array α} (ht : ∀ i, i < n → tag d0[i]! = i) : First lt tag s n 0 d0 d0 := ⟨fun p hp => by omega, fun _ _ => rfl, fun i hi => by rw [ht i hi]⟩
theorem First.rise {s n q b : Nat} {d0 d : Array α} (h : First lt tag s n q d0 d) (ht : ∀ i, i < n → tag d0[i]! = i) (hb : b ≤ n) : Rise tag (q * s) b d := fun i j x y z => by
  rw [h.rest i x, h.rest j (by omega), ht i (by omega), ht j (by omega)]; exact y
theorem First.step {s n q : Nat} {d0 d d' : Array α} (h : First lt tag s n q d0 d) (hs : 0 < s) (hn : n = d.size) (hb : q * s + s ≤ n) (hp : PermIn (q * s) (q * s + s) d d') (ho : Ord lt tag (q * s) (q * s + s) d') : First lt tag s n (q + 1) d0 d' := by
  have e : (q + 1) * s = q * s + s := by rw [Nat.add_mul, Nat.one_mul]
  refine ⟨fun p hpq => ?_, fun i x => ?_, h.tags.perm (q := q) hs hp hn hb (Nat.le_refl _) (Nat.le_refl _)⟩
  · by_cases hc : p = q
    · subst hc; exact ho
    · have hle : (p + 1) * s ≤ q * s := Nat.mul_le_mul_right _ (by omega)
      rw [Nat.add_mul, Nat.one_mul] at hle
      exact (h.done p (by omega)).same fun t x y => hp.2.1 t (by omega)
  · rw [e] at x
    rw [hp.2.1 i (by omega)]; exact h.rest i (by omega)
theorem First.last {s n q : Nat} {d0 d d' : Array α} (h : First lt tag s n q d0 d) (hs : 0 < s) (hn : n = d.size) (hq : q * s ≤ n) (hb : n < q * s + s) (hp : PermIn (q * s) n d d') (ho : Ord lt tag (q * s) n d') : BOrd lt tag s n d' ∧ InBlk tag s n d' := by
  refine ⟨fun p => ?_, h.tags.perm (q := q) hs hp hn (Nat.le_refl _) (Nat.le_refl _) (by omega)⟩
  by_cases h1 : p < q
  · have hle : (p + 1) * s ≤ q * s := Nat.mul_le_mul_right _ (by omega)
    rw [Nat.add_mul, Nat.one_mul] at hle
    rw [Nat.min_eq_left (by omega)]
    exact (h.done p h1).same fun t x y => hp.2.1 t (by omega)
  · by_cases h2 : p = q
    · subst h2
      rw [Nat.min_eq_right (by omega)]; exact ho
    · have hle : (q + 1) * s ≤ p * s := Nat.mul_le_mul_right _ (by omega)
      rw [Nat.add_mul, Nat.one_mul] at hle
      exact Ord.nil _ _ _ (by omega)
end Go.Proofs.Yteajjbfecpffeaa
