/-
  Contracts and plain laws that the walk uses, several texts in one. The conditions are named ahead of each.
-/
import Derived.Sort.LotA

/-
  The plain layer of the library's stable sort: blocks, rotations, symmetric merging, over an array and a 'less'. No program here; no conditions beyond index bounds.
-/
namespace Go.Proofs.YtjhbffndiaggmaaGreatDoor
open Go.Sort
set_option linter.unusedVariables false
set_option linter.unusedSimpArgs false
set_option linter.unusedSectionVars false
variable {α : Type} [Inhabited α]

/-! ### the order of a stable sort: by 'less', then by where an element stood -/
section
variable (lt : α → α → Bool) (tag : α → Nat)
/-- x comes before y -/
def bef (x y : α) : Prop := lt x y = true ∨ (lt y x = false ∧ tag x < tag y)
/-- a ≤ i < b is in its order -/
def Ord (a b : Nat) (d : Array α) : Prop := ∀ i j, a ≤ i → i < j → j < b → bef lt tag d[i]! d[j]!
/-- all of a ≤ i < m stood ahead of all of m ≤ j < b -/
def Sep (a m b : Nat) (d : Array α) : Prop := ∀ i j, a ≤ i → i < m → m ≤ j → j < b → tag d[i]! < tag d[j]!
end
variable {lt : α → α → Bool} {tag : α → Nat}
theorem bef_trans (hS : SWO lt) {x y z : α} (h1 : bef lt tag x y) (h2 : bef lt tag y z) : bef lt tag x z := by
  have key : ∀ {x y z : α}, lt x y = true → lt z y = false → lt x z = true := by
    intro x y z hxy hzy
    cases hxz : lt x z with
    | true => rfl
    | false =>
      have := hS.ntrans x z y hxz hzy
      rw [hxy] at this; cases this
  have key2 : ∀ {x y z : α}, lt y x = false → lt y z = true → lt x z = true := by
    intro x y z hyx hyz
    cases hxz : lt x z with
    | true => rfl
    | false =>
      have := hS.ntrans y x z hyx hxz
      rw [hyz] at this; cases this
  rcases h1 with h1 | ⟨h1, t1⟩
  · rcases h2 with h2 | ⟨h2, t2⟩
    · exact .inl (hS.trans _ _ _ h1 h2)
    · exact .inl (key h1 h2)
  · rcases h2 with h2 | ⟨h2, t2⟩
    · exact .inl (key2 h1 h2)
    · exact .inr ⟨hS.ntrans _ _ _ h2 h1, by omega⟩
/-- x stood ahead of y: y is less, or x comes before it -/
theorem bef_no {x y : α} (ht : tag x < tag y) (h : lt y x = false) : bef lt tag x y := .inr ⟨h, ht⟩
theorem bef_yes {x y : α} (h : lt y x = true) : bef lt tag y x := .inl h
theorem bef_asymm (hS : SWO lt) {x y : α} (h1 : bef lt tag x y) (h2 : bef lt tag y x) : False := by
  rcases h1 with h1 | ⟨h1, t1⟩
  · rcases h2 with h2 | ⟨h2, t2⟩
    · have := hS.asymmA h1; rw [h2] at this; cases this
    · rw [h1] at h2; cases h2
  · rcases h2 with h2 | ⟨h2, t2⟩
    · rw [h2] at h1; cases h1
    · omega

/-! ### the four tests of the binary searches -/
/-- x comes before y, y is less than z: so is x -/
theorem bef_lt (hS : SWO lt) {x y z : α} (h : bef lt tag x y) (h2 : lt y z = true) : lt x z = true := by
  rcases h with h | ⟨h, _⟩
  · exact hS.trans _ _ _ h h2
  · cases e : lt x z with
    | true => rfl
    | false =>
      have := hS.ntrans _ _ _ h e
      rw [h2] at this; cases this
/-- x comes before y, x is not less than z: neither is y -/
theorem bef_nlt (hS : SWO lt) {x y z : α} (h : bef lt tag x y) (h2 : lt x z = false) : lt y z = false := by
  have hyx : lt y x = false := by
    rcases h with h | ⟨h, _⟩
    · exact hS.asymmA h
    · exact h
  exact hS.ntrans _ _ _ hyx h2
/-- x comes before y, z is less than x: and than y -/
theorem lt_bef (hS : SWO lt) {x y z : α} (h : bef lt tag x y) (h2 : lt z x = true) : lt z y = true := by
  have hyx : lt y x = false := by
    rcases h with h | ⟨h, _⟩
    · exact hS.asymmA h
    · exact h
  cases e : lt z y with
  | true => rfl
  | false =>
    have := hS.ntrans _ _ _ e hyx
    rw [h2] at this; cases this
/-- x comes before y, z is not less than y: nor than x -/
theorem nlt_bef (hS : SWO lt) {x y z : α} (h : bef lt tag x y) (h2 : lt z y = false) : lt z x = false := by
  cases e : lt z x with
  | false => rfl
  | true =>
    have := lt_bef hS h e
    rw [h2] at this; cases this
/-- 'before', or the same place -/
theorem Ord.le {a b i j : Nat} {d : Array α} (h : Ord lt tag a b d) (h1 : a ≤ i) (h2 : i ≤ j) (h3 : j < b) : i = j ∨ bef lt tag d[i]! d[j]! := by
  by_cases e : i = j
  · exact .inl e
  · exact .inr (h i j h1 (by omega) h3)
/-! ### exchanges of runs; rotations -/
/-- d' is d with the n places from x on and those from y on exchanged -/
structure SwR (x y n : Nat) (d d' : Array α) : Prop where
  size : d'.size = d.size
  left : ∀ t, t < n → d'[x + t]! = d[y + t]!
  right : ∀ t, t < n → d'[y + t]! = d[x + t]!
  rest : ∀ t, (t < x ∨ x + n ≤ t) → (t < y ∨ y + n ≤ t) → d'[t]! = d[t]!
theorem SwR.zero (x y : Nat) (d : Array α) : SwR x y 0 d d := ⟨rfl, fun t h => by omega, fun t h => by omega, fun _ _ _ => rfl⟩
theorem SwR.succ {x y n : Nat} {d d' : Array α} (h : SwR x y n d d') (hxy : x + n < y) (hy : y + n < d.size) : SwR x y (n + 1) d (swp d' (x + n) (y + n)) := by
  have hs := h.size
  have g := swp_get d' (i := x + n) (j := y + n) (by omega) (by omega)
  refine ⟨by rw [swp_size, hs], fun t ht => ?_, fun t ht => ?_, fun t h1 h2 => ?_⟩
  · rw [g]
    by_cases e : t = n
    · subst e; rw [if_neg (by omega), if_pos rfl, h.rest _ (by omega) (by omega)]
    · by_cases e2 : x + t = y + n
      · omega
      · rw [if_neg e2, if_neg (by omega), h.left t (by omega)]
  · rw [g]
    by_cases e : t = n
    · subst e; rw [if_pos rfl, h.rest _ (by omega) (by omega)]
    · rw [if_neg (by omega), if_neg (by omega), h.right t (by omega)]
  · rw [g, if_neg (by omega), if_neg (by omega), h.rest t (by omega) (by omega)]
/-- d' is d with the runs [s, m) and [m, e) exchanged -/
structure Rot (s m e : Nat) (d d' : Array α) : Prop where
  size : d'.size = d.size
  out : ∀ t, t < s ∨ e ≤ t → d'[t]! = d[t]!
  lo : ∀ t, s ≤ t → t < s + (e - m) → d'[t]! = d[t - s + m]!
  hi : ∀ t, s + (e - m) ≤ t → t < e → d'[t]! = d[t - (e - m)]!
theorem Rot.left_nil (m e : Nat) (d : Array α) : Rot m m e d d := ⟨rfl, fun _ _ => rfl, fun t h1 h2 => by rw [show t - m + m = t by omega], fun t h1 h2 => by rw [show t - (e - m) = t by omega]⟩
theorem Rot.right_nil (s m : Nat) (d : Array α) : Rot s m m d d := ⟨rfl, fun _ _ => rfl, fun t h1 h2 => by omega, fun t h1 h2 => by rw [show t - (m - m) = t by omega]⟩
theorem Rot.big {m i j : Nat} {d d1 d2 : Array α} (h1 : SwR (m - i) m j d d1) (h2 : Rot (m - i + j) m (m + j) d1 d2) (hij : j < i) (hi : i ≤ m) : Rot (m - i) m (m + j) d d2 := by
  refine ⟨h2.size.trans h1.size, fun t ht => ?_, fun t a b => ?_, fun t a b => ?_⟩
  · rw [h2.out t (by omega), h1.rest t (by omega) (by omega)]
  · rw [h2.out t (by omega)]
    have := h1.left (t - (m - i)) (by omega)
    rw [show m - i + (t - (m - i)) = t by omega] at this
    rw [this, show m + (t - (m - i)) = t - (m - i) + m by omega]
  · by_cases hc : t < m - i + j + (m + j - m)
    · rw [h2.lo t (by omega) hc, show t - (m - i + j) + m = m + (t - (m - i + j)) by omega, h1.right _ (by omega)]
      congr 1; omega
    · rw [h2.hi t (by omega) (by omega), h1.rest _ (by omega) (by omega)]
theorem Rot.small {m i j : Nat} {d d1 d2 : Array α} (h1 : SwR (m - i) (m + j - i) i d d1) (h2 : Rot (m - i) m (m + j - i) d1 d2) (hij : i < j) (hi : i ≤ m) : Rot (m - i) m (m + j) d d2 := by
  refine ⟨h2.size.trans h1.size, fun t ht => ?_, fun t a b => ?_, fun t a b => ?_⟩
  · rw [h2.out t (by omega), h1.rest t (by omega) (by omega)]
  · by_cases hc : t < m - i + (m + j - i - m)
    · rw [h2.lo t a hc, h1.rest _ (by omega) (by omega)]
    · rw [h2.hi t (by omega) (by omega)]
      have := h1.left (t - (m + j - i - m) - (m - i)) (by omega)
      rw [show m - i + (t - (m + j - i - m) - (m - i)) = t - (m + j - i - m) by omega] at this
      rw [this]
      congr 1; omega
  · rw [h2.out t (by omega)]
    have := h1.right (t - (m + j - i)) (by omega)
    rw [show m + j - i + (t - (m + j - i)) = t by omega] at this
    rw [this]
    congr 1; omega
theorem Rot.same {m i : Nat} {d d2 : Array α} (h1 : SwR (m - i) m i d d2) (hi : i ≤ m) : Rot (m - i) m (m + i) d d2 := by
  refine ⟨h1.size, fun t ht => h1.rest t (by omega) (by omega), fun t a b => ?_, fun t a b => ?_⟩
  · have := h1.left (t - (m - i)) (by omega)
    rw [show m - i + (t - (m - i)) = t by omega] at this
    rw [this]; congr 1; omega
  · have := h1.right (t - m) (by omega)
    rw [show m + (t - m) = t by omega] at this
    rw [this]; congr 1; omega
/-- one element carried to the right, place by place -/
theorem Rot.carry {a k : Nat} {d d1 : Array α} (h : Rot a (a + 1) (k + 1) d d1) (hak : a ≤ k) (hk : k + 1 < d.size) : Rot a (a + 1) (k + 2) d (swp d1 k (k + 1)) := by
  have hs := h.size
  have g := swp_get d1 (i := k) (j := k + 1) (by omega) (by omega)
  refine ⟨by rw [swp_size, hs], fun t ht => ?_, fun t x y => ?_, fun t x y => ?_⟩
  · rw [g, if_neg (by omega), if_neg (by omega), h.out t (by omega)]
  · rw [g]
    by_cases e : t = k
    · subst e; rw [if_neg (by omega), if_pos rfl, h.out _ (by omega)]; congr 1; omega
    · rw [if_neg (by omega), if_neg e, h.lo t (by omega) (by omega)]
  · obtain rfl : t = k + 1 := by omega
    rw [g, if_pos rfl, h.hi k (by omega) (by omega)]
    congr 1; omega
/-- one element carried to the left, place by place -/
theorem Rot.fetch {m k : Nat} {d d1 : Array α} (h : Rot k m (m + 1) d d1) (h0 : 0 < k) (hkm : k ≤ m) (hm : m < d.size) : Rot (k - 1) m (m + 1) d (swp d1 k (k - 1)) := by
  have hs := h.size
  have g := swp_get d1 (i := k) (j := k - 1) (by omega) (by omega)
  refine ⟨by rw [swp_size, hs], fun t ht => ?_, fun t x y => ?_, fun t x y => ?_⟩
  · rw [g, if_neg (by omega), if_neg (by omega), h.out t (by omega)]
  · obtain rfl : t = k - 1 := by omega
    rw [g, if_pos rfl, h.lo k (by omega) (by omega)]
    congr 1; omega
  · rw [g]
    by_cases e : t = k
    · subst e; rw [if_neg (by omega), if_pos rfl, h.out _ (by omega)]; congr 1; omega
    · rw [if_neg (by omega), if_neg e, h.hi t (by omega) (by omega)]

/-! ### merging -/
/-- the halves that a rotation of [s, m), [m, e) brings about: all of the first come before all of the second -/
structure Cut (lt : α → α → Bool) (tag : α → Nat) (a s m e b : Nat) (d : Array α) : Prop where
  one : ∀ i j, a ≤ i → i < s → e ≤ j → j < b → bef lt tag d[i]! d[j]!
  two : ∀ i j, m ≤ i → i < e → s ≤ j → j < m → bef lt tag d[i]! d[j]!
/-- behind the rotation: the four runs are in order, the first two come before the last two -/
theorem Rot.halves {a s m e b : Nat} {d d' : Array α} (h : Rot s m e d d') (hC : Cut lt tag a s m e b d) (h1 : Ord lt tag a m d) (h2 : Ord lt tag m b d) (h3 : Sep tag a m b d) (has : a ≤ s) (hsm : s ≤ m) (hme : m ≤ e) (heb : e ≤ b) :
    Ord lt tag a s d' ∧ Ord lt tag s (s + (e - m)) d' ∧ Ord lt tag (s + (e - m)) e d' ∧ Ord lt tag e b d' ∧ Sep tag a s (s + (e - m)) d' ∧ Sep tag (s + (e - m)) e b d' ∧ (∀ i j, a ≤ i → i < s + (e - m) → s + (e - m) ≤ j → j < b → bef lt tag d'[i]! d'[j]!) := by
  refine ⟨fun i j x y z => ?_, fun i j x y z => ?_, fun i j x y z => ?_, fun i j x y z => ?_, fun i j x y z u => ?_, fun i j x y z u => ?_, fun i j x y z u => ?_⟩
  · rw [h.out i (by omega), h.out j (by omega)]; exact h1 i j x y (by omega)
  · rw [h.lo i (by omega) (by omega), h.lo j (by omega) (by omega)]; exact h2 _ _ (by omega) (by omega) (by omega)
  · rw [h.hi i (by omega) (by omega), h.hi j (by omega) (by omega)]; exact h1 _ _ (by omega) (by omega) (by omega)
  · rw [h.out i (by omega), h.out j (by omega)]; exact h2 i j (by omega) y z
  · rw [h.out i (by omega), h.lo j (by omega) (by omega)]; exact h3 _ _ (by omega) (by omega) (by omega) (by omega)
  · rw [h.hi i (by omega) (by omega), h.out j (by omega)]; exact h3 _ _ (by omega) (by omega) (by omega) (by omega)
  · by_cases hi : i < s
    · rw [h.out i (by omega)]
      by_cases hj : j < e
      · rw [h.hi j (by omega) hj]; exact h1 _ _ x (by omega) (by omega)
      · rw [h.out j (by omega)]; exact hC.one i j x hi (by omega) u
    · rw [h.lo i (by omega) y]
      by_cases hj : j < e
      · rw [h.hi j (by omega) hj]; exact hC.two _ _ (by omega) (by omega) (by omega) (by omega)
      · rw [h.out j (by omega)]; exact h2 _ _ (by omega) (by omega) u
/-- two halves in order, the first before the second -/
theorem Ord.join {a m b : Nat} {d : Array α} (h1 : Ord lt tag a m d) (h2 : Ord lt tag m b d) (h : ∀ i j, a ≤ i → i < m → m ≤ j → j < b → bef lt tag d[i]! d[j]!) : Ord lt tag a b d := by
  intro i j x y z
  by_cases hj : j < m
  · exact h1 i j x y hj
  · by_cases hi : i < m
    · exact h i j x hi (by omega) z
    · exact h2 i j (by omega) y z
theorem Ord.one (a : Nat) (d : Array α) : Ord lt tag a (a + 1) d := fun i j x y z => by omega
theorem Ord.nil (a b : Nat) (d : Array α) (h : b ≤ a) : Ord lt tag a b d := fun i j x y z => by omega
theorem Ord.same {a b : Nat} {d d' : Array α} (h : Ord lt tag a b d) (he : ∀ t, a ≤ t → t < b → d'[t]! = d[t]!) : Ord lt tag a b d' := fun i j x y z => by rw [he i x (by omega), he j (by omega) z]; exact h i j x y z
/-- one element put among those behind it -/
theorem Rot.insL {a i b : Nat} {d d' : Array α} (hS : SWO lt) (h : Rot a (a + 1) i d d') (h2 : Ord lt tag (a + 1) b d) (hai : a + 1 ≤ i) (hib : i ≤ b) (hlo : ∀ j, a + 1 ≤ j → j < i → bef lt tag d[j]! d[a]!) (hhi : ∀ j, i ≤ j → j < b → bef lt tag d[a]! d[j]!) : Ord lt tag a b d' := by
  intro p q x y z
  by_cases hq : q < i - 1
  · rw [h.lo p (by omega) (by omega), h.lo q (by omega) (by omega)]; exact h2 _ _ (by omega) (by omega) (by omega)
  · by_cases hq2 : q = i - 1
    · subst hq2
      rw [h.lo p (by omega) (by omega), h.hi (i - 1) (by omega) (by omega), show i - 1 - (i - (a + 1)) = a by omega]
      exact hlo _ (by omega) (by omega)
    · rw [h.out q (by omega)]
      by_cases hp : p < i - 1
      · rw [h.lo p (by omega) (by omega)]; exact h2 _ _ (by omega) (by omega) z
      · by_cases hp2 : p = i - 1
        · subst hp2
          rw [h.hi (i - 1) (by omega) (by omega), show i - 1 - (i - (a + 1)) = a by omega]
          exact hhi q (by omega) z
        · rw [h.out p (by omega)]; exact h2 _ _ (by omega) y z
/-- one element put among those ahead of it -/
theorem Rot.insR {a i m : Nat} {d d' : Array α} (hS : SWO lt) (h : Rot i m (m + 1) d d') (h1 : Ord lt tag a m d) (hai : a ≤ i) (him : i ≤ m) (hlo : ∀ j, a ≤ j → j < i → bef lt tag d[j]! d[m]!) (hhi : ∀ j, i ≤ j → j < m → bef lt tag d[m]! d[j]!) : Ord lt tag a (m + 1) d' := by
  intro p q x y z
  by_cases hq : q < i
  · rw [h.out p (by omega), h.out q (by omega)]; exact h1 _ _ x y (by omega)
  · by_cases hq2 : q = i
    · subst hq2
      rw [h.out p (by omega), h.lo q (by omega) (by omega), show q - q + m = m by omega]; exact hlo p x y
    · rw [h.hi q (by omega) (by omega)]
      by_cases hp : p < i
      · rw [h.out p (by omega)]; exact h1 _ _ x (by omega) (by omega)
      · by_cases hp2 : p = i
        · subst hp2
          rw [h.lo p (by omega) (by omega), show p - p + m = m by omega]; exact hhi _ (by omega) (by omega)
        · rw [h.hi p (by omega) (by omega)]; exact h1 _ _ (by omega) (by omega) (by omega)

/-! ### blocks -/
/-- each element stood in the block in which it stands, blocks of s -/
def InBlk (tag : α → Nat) (s n : Nat) (d : Array α) : Prop := ∀ i, i < n → tag d[i]! / s = i / s
theorem InBlk.double {s n : Nat} {d : Array α} (h : InBlk tag s n d) : InBlk tag (s * 2) n d := fun i hi => by rw [← Nat.div_div_eq_div_mul, h i hi, Nat.div_div_eq_div_mul]
theorem InBlk.perm {s n a b q : Nat} {d d' : Array α} (h : InBlk tag s n d) (hs : 0 < s) (hp : PermIn a b d d') (hn : n = d.size) (hb : b ≤ n) (ha : q * s ≤ a) (hq : b ≤ q * s + s) : InBlk tag s n d' := by
  intro i hi
  by_cases hc : a ≤ i ∧ i < b
  · have hq2 : ∀ i, a ≤ i → i < b → i / s = q := fun i x y => Nat.div_eq_of_lt_le (by omega) (by rw [Nat.add_mul, Nat.one_mul]; omega)
    have := permIn_all d d' a b (fun x => tag x / s = q) (by omega) hp (fun i x y => by rw [h i (by omega), hq2 i x y]) i hc.1 hc.2
    rw [this, hq2 i hc.1 hc.2]
  · rw [hp.2.1 i (by omega)]; exact h i hi
theorem InBlk.sep {s n a m b : Nat} {d : Array α} (h : InBlk tag s n d) (hs : 0 < s) (q : Nat) (ha : q * s ≤ a) (hm : m = q * s + s) (hb : b ≤ n) : Sep tag a m b d := by
  intro i j x y z u
  have h1 := h i (by omega)
  have h2 := h j (by omega)
  have e1 : i / s = q := Nat.div_eq_of_lt_le (by omega) (by rw [Nat.add_mul, Nat.one_mul]; omega)
  have e2 : q + 1 ≤ j / s := (Nat.le_div_iff_mul_le hs).2 (by rw [Nat.add_mul, Nat.one_mul]; omega)
  by_cases hc : tag d[i]! < tag d[j]!
  · exact hc
  · have := Nat.div_le_div_right (c := s) (Nat.le_of_not_lt hc)
    omega
/-! ### insertion sort is stable -/
/-- tags rise on a ≤ i < b -/
def Rise (tag : α → Nat) (a b : Nat) (d : Array α) : Prop := ∀ i j, a ≤ i → i < j → j < b → tag d[i]! < tag d[j]!
/-- the order, as a 'less' -/
def ltx (lt : α → α → Bool) (tag : α → Nat) (x y : α) : Bool := lt x y || (!lt y x && decide (tag x < tag y))
theorem ltx_iff {x y : α} : ltx lt tag x y = true ↔ bef lt tag x y := by simp [ltx, bef]
theorem ltx_swo (hS : SWO lt) : SWO (ltx lt tag) := by
  refine ⟨fun x => by simp [ltx, hS.irrefl], fun x y z h1 h2 => ltx_iff.2 (bef_trans hS (ltx_iff.1 h1) (ltx_iff.1 h2)), fun x y z h1 h2 => ?_⟩
  have f : ∀ {x y : α}, ltx lt tag x y = false → lt x y = false ∧ (lt y x = false → tag y ≤ tag x) := by
    intro x y h
    simp only [ltx, Bool.or_eq_false_iff, Bool.and_eq_false_iff, Bool.not_eq_false', decide_eq_false_iff_not] at h
    refine ⟨h.1, fun h0 => ?_⟩
    rcases h.2 with h2 | h2
    · rw [h0] at h2; cases h2
    · omega
  obtain ⟨a1, a2⟩ := f h1
  obtain ⟨b1, b2⟩ := f h2
  have c1 := hS.ntrans _ _ _ a1 b1
  cases hc : ltx lt tag x z with
  | false => rfl
  | true =>
    rcases ltx_iff.1 hc with h | ⟨h, t⟩
    · rw [c1] at h; cases h
    · have h3 : lt y x = false := by
        cases e : lt y x with
        | false => rfl
        | true =>
          have := hS.ntrans y z x b1 h
          rw [e] at this; cases this
      have h4 : lt z y = false := by
        cases e : lt z y with
        | false => rfl
        | true =>
          have := hS.ntrans z x y h a1
          rw [e] at this; cases this
      have := a2 h3
      have := b2 h4
      omega
/-- where the moving element stood behind all to its left, 'less' and the order say the same -/
theorem insInner_ltx (a : Nat) : ∀ (j : Nat) (d : Array α), (∀ i, a ≤ i → i < j → tag d[i]! < tag d[j]!) → j < d.size → insInner lt a j d = insInner (ltx lt tag) a j d
  | 0, d, _, _ => by simp [insInner]
  | j + 1, d, h, hs => by
    unfold insInner
    by_cases ha : j + 1 > a
    · have ht := h j (by omega) (by omega)
      have e : ltx lt tag d[j + 1]! d[j]! = lt d[j + 1]! d[j]! := by simp [ltx]; intro _; omega
      rw [e]
      split
      · have g := swp_get d (i := j + 1) (j := j) (by omega) (by omega)
        refine insInner_ltx a j _ (fun i x y => ?_) (by rw [swp_size]; omega)
        rw [g, g, if_neg (by omega), if_neg (by omega), if_pos rfl]
        exact h i x (by omega)
      · rfl
    · rw [decide_eq_false (by omega)]; simp
theorem insOuter_ltx (hS : SWO lt) (a b : Nat) : ∀ (n i : Nat) (d : Array α), b - i = n → a ≤ i → b ≤ d.size → (∀ p q, a ≤ p → p < q → i ≤ q → q < b → tag d[p]! < tag d[q]!) → insOuter lt a b i d = insOuter (ltx lt tag) a b i d
  | 0, i, d, hn, hai, hb, h => by
    conv => lhs; rw [insOuter, if_neg (by omega)]
    conv => rhs; rw [insOuter, if_neg (by omega)]
  | n + 1, i, d, hn, hai, hb, h => by
    conv => lhs; rw [insOuter, if_pos (by omega)]
    conv => rhs; rw [insOuter, if_pos (by omega)]
    rw [insInner_ltx a i d (fun p x y => h p i x y (Nat.le_refl _) (by omega)) (by omega)]
    have hI : ∀ (j : Nat) (d : Array α), j ≤ i → i < d.size → PermIn a (i + 1) d (insInner (ltx lt tag) a j d) := by
      intro j
      induction j with
      | zero => intro d _ _; unfold insInner; exact permIn_refl _ _ _
      | succ j ih =>
        intro d hj hd
        unfold insInner
        split
        · rename_i hc
          simp only [Bool.and_eq_true, decide_eq_true_eq] at hc
          exact permIn_trans _ _ _ _ _ (swp_permIn d a (i + 1) (j + 1) j (by omega) (by omega) (by omega) (by omega) (by omega)) (ih _ (by omega) (by rw [swp_size]; exact hd))
        · exact permIn_refl _ _ _
    have hp := hI i d (Nat.le_refl _) (by omega)
    refine insOuter_ltx hS a b n (i + 1) _ (by omega) (by omega) (by rw [hp.1]; exact hb) (fun p q x y z u => ?_)
    rw [hp.2.1 q (by omega)]
    by_cases hpi : p < i + 1
    · exact permIn_all d _ a (i + 1) (fun v => tag v < tag d[q]!) (by omega) hp (fun t e f => h t q e (by omega) (by omega) u) p x hpi
    · rw [hp.2.1 p (by omega)]; exact h p q x y (by omega) u
theorem insertionSort_ord (hS : SWO lt) {a b : Nat} {d : Array α} (hab : a ≤ b) (hb : b ≤ d.size) (hr : Rise tag a b d) : PermIn a b d (insertionSort lt d a b) ∧ Ord lt tag a b (insertionSort lt d a b) := by
  have e : insertionSort lt d a b = insertionSort (ltx lt tag) d a b := by
    unfold insertionSort
    exact insOuter_ltx hS a b _ _ _ rfl (by omega) hb fun p q x y _ u => hr p q x y u
  have h := insertionSort_holds (lt := ltx lt tag) (ltx_swo hS) d a b hab hb
  rw [← e] at h
  refine ⟨h.1, ?_⟩
  -- tags part any two places
  have hl : (insertionSort lt d a b).extract a b |>.toList.Pairwise fun x y => tag x ≠ tag y := by
    have h0 : (d.extract a b).toList.Pairwise fun x y => tag x ≠ tag y := by
      rw [extract_toList d a b hb, List.pairwise_map]
      refine List.Pairwise.imp_of_mem ?_ (List.pairwise_lt_range' (n := b - a) (s := a))
      intro i j hi hj hij
      have h1 := List.mem_range'_1.1 hi
      have h2 := List.mem_range'_1.1 hj
      have := hr i j h1.1 hij (by omega)
      omega
    exact (h.1.2.2.pairwise_iff fun h => Ne.symm h).2 h0
  intro i j x y z
  have hn := h.2 i j x y z
  have hne : tag (insertionSort lt d a b)[i]! ≠ tag (insertionSort lt d a b)[j]! := by
    have hb' : b ≤ (insertionSort lt d a b).size := by rw [h.1.1]; exact hb
    rw [extract_toList _ a b hb', List.pairwise_map, List.pairwise_iff_getElem] at hl
    have := hl (i - a) (j - a) (by simp; omega) (by simp; omega) (by omega)
    simp only [List.getElem_range'] at this
    rw [show a + 1 * (i - a) = i by omega, show a + 1 * (j - a) = j by omega] at this
    exact this
  generalize (insertionSort lt d a b)[i]! = u at hn hne ⊢
  generalize (insertionSort lt d a b)[j]! = v at hn hne ⊢
  simp only [ltx, Bool.or_eq_false_iff, Bool.and_eq_false_iff, Bool.not_eq_false', decide_eq_false_iff_not] at hn
  cases e1 : lt u v with
  | true => exact .inl e1
  | false =>
    rcases hn.2 with h2 | h2
    · rw [e1] at h2; cases h2
    · exact .inr ⟨hn.1, by omega⟩
/-- ONE list is in order: two that hold the same elements are one -/
theorem Ord.unique (hS : SWO lt) {xs ys : List α} (hp : xs.Perm ys) (h1 : xs.Pairwise (bef lt tag)) (h2 : ys.Pairwise (bef lt tag)) : xs = ys :=
  List.Perm.eq_of_pairwise (le := bef lt tag) (fun a b _ _ h1 h2 => (bef_asymm hS h1 h2).elim) h1 h2 hp
theorem Ord.pairwise {d : Array α} (h : Ord lt tag 0 d.size d) : d.toList.Pairwise (bef lt tag) := by
  rw [List.pairwise_iff_getElem]
  intro i j hi hj hij
  have hi' : i < d.size := by simpa using hi
  have hj' : j < d.size := by simpa using hj
  have := h i j (Nat.zero_le _) hij hj'
  rw [getElem!_pos d j hj', getElem!_pos d i hi'] at this
  simpa using this
end Go.Proofs.YtjhbffndiaggmaaGreatDoor

/-
  The plain layer of the library's stable sort, its second part: the halves of a merge; blocks that grow. No program here; no conditions beyond index bounds.
-/
namespace Go.Proofs.YtjhbffndiaggmaaGreatDoor
open Go.Sort
set_option linter.unusedVariables false
set_option linter.unusedSimpArgs false
set_option linter.unusedSectionVars false
variable {α : Type} [Inhabited α] {lt : α → α → Bool} {tag : α → Nat}

theorem bef_le_l (hS : SWO lt) {x y z : α} (h : x = y ∨ bef lt tag x y) (h2 : bef lt tag y z) : bef lt tag x z := by
  rcases h with h | h
  · rw [h]; exact h2
  · exact bef_trans hS h h2
theorem bef_le_r (hS : SWO lt) {x y z : α} (h : bef lt tag x y) (h2 : y = z ∨ bef lt tag y z) : bef lt tag x z := by
  rcases h2 with h2 | h2
  · rw [← h2]; exact h
  · exact bef_trans hS h h2
theorem Ord.le' {a b i j : Nat} {d : Array α} (h : Ord lt tag a b d) (h1 : a ≤ i) (h2 : i ≤ j) (h3 : j < b) : d[i]! = d[j]! ∨ bef lt tag d[i]! d[j]! := by
  rcases h.le h1 h2 h3 with e | e
  · exact .inl (by rw [e])
  · exact .inr e
/-- what the binary search has found parts both runs -/
theorem Cut.found (hS : SWO lt) {a s m e b : Nat} {d : Array α} (o1 : Ord lt tag a m d) (o2 : Ord lt tag m b d) (o3 : Sep tag a m b d) (has : a ≤ s) (hsm : s ≤ m) (hme : m ≤ e) (heb : e ≤ b)
    (h1 : s = a ∨ e = b ∨ lt d[e]! d[s - 1]! = false) (h2 : s = m ∨ e = m ∨ lt d[e - 1]! d[s]! = true) : Cut lt tag a s m e b d := by
  refine ⟨fun i j x y z u => ?_, fun i j x y z u => ?_⟩
  · rcases h1 with h1 | h1 | h1
    · omega
    · omega
    · have hb : bef lt tag d[s - 1]! d[e]! := bef_no (o3 _ _ (by omega) (by omega) (by omega) (by omega)) h1
      exact bef_le_r hS (bef_le_l hS (o1.le' x (by omega) (by omega)) hb) (o2.le' (by omega) z u)
  · rcases h2 with h2 | h2 | h2
    · omega
    · omega
    · have hb : bef lt tag d[e - 1]! d[s]! := bef_yes h2
      exact bef_le_r hS (bef_le_l hS (o2.le' x (by omega) (by omega)) hb) (o1.le' (by omega) z u)
/-- both halves put in order by themselves -/
theorem join_halves {a mid b : Nat} {d1 d2 d3 : Array α} (hc : ∀ i j, a ≤ i → i < mid → mid ≤ j → j < b → bef lt tag d1[i]! d1[j]!) (p2 : PermIn a mid d1 d2) (o2 : Ord lt tag a mid d2) (p3 : PermIn mid b d2 d3) (o3 : Ord lt tag mid b d3) (ham : a ≤ mid) (hmb : mid ≤ b) (hb : b ≤ d1.size) :
    Ord lt tag a b d3 ∧ PermIn a b d1 d3 := by
  have c2 : ∀ i j, a ≤ i → i < mid → mid ≤ j → j < b → bef lt tag d2[i]! d2[j]! := fun i j x y z u => by
    rw [p2.2.1 j (by omega)]
    exact permIn_all d1 d2 a mid (fun v => bef lt tag v d1[j]!) (by omega) p2 (fun t e f => hc t j e f z u) i x y
  have c3 : ∀ i j, a ≤ i → i < mid → mid ≤ j → j < b → bef lt tag d3[i]! d3[j]! := fun i j x y z u => by
    rw [p3.2.1 i (by omega)]
    exact permIn_all d2 d3 mid b (fun v => bef lt tag d2[i]! v) (by rw [p2.1]; omega) p3 (fun t e f => c2 i t x y e f) j z u
  refine ⟨Ord.join (o2.same fun t x y => p3.2.1 t (by omega)) o3 c3, ?_⟩
  exact permIn_trans _ _ _ _ _ (permIn_mono _ _ _ _ _ _ (Nat.le_refl _) hmb hb p2) (permIn_mono _ _ _ _ _ _ ham (Nat.le_refl _) (by rw [p2.1]; exact hb) p3)

/-! ### blocks that grow -/
/-- every block of s is in order -/
def BOrd (lt : α → α → Bool) (tag : α → Nat) (s n : Nat) (d : Array α) : Prop := ∀ q, Ord lt tag (q * s) (min (q * s + s) n) d
theorem BOrd.all {s n : Nat} {d : Array α} (h : BOrd lt tag s n d) (hs : n ≤ s) : Ord lt tag 0 n d := by
  have := h 0
  rwa [Nat.zero_mul, Nat.zero_add, Nat.min_eq_right hs] at this
/-- q blocks of twice s are in order, the rest are in order in blocks of s, and stand where they stood -/
structure Half (lt : α → α → Bool) (tag : α → Nat) (s n q : Nat) (d : Array α) : Prop where
  done : ∀ p, p < q → Ord lt tag (p * (s * 2)) (p * (s * 2) + s * 2) d
  todo : ∀ r, q * 2 ≤ r → Ord lt tag (r * s) (min (r * s + s) n) d
  tags : ∀ i, q * (s * 2) ≤ i → i < n → tag d[i]! / s = i / s
  tags2 : InBlk tag (s * 2) n d
theorem Half.start {s n : Nat} {d : Array α} (h : BOrd lt tag s n d) (ht : InBlk tag s n d) : Half lt tag s n 0 d :=
  ⟨fun p hp => by omega, fun r _ => h r, fun i _ hi => ht i hi, ht.double⟩
theorem two_mul' (q s : Nat) : q * 2 * s = q * (s * 2) := by rw [Nat.mul_assoc, Nat.mul_comm 2 s]
/-- what the merge of block q asks -/
theorem Half.asks {s n q b : Nat} {d : Array α} (h : Half lt tag s n q d) (hs : 0 < s) (hm : q * (s * 2) + s < b) (hb : b ≤ n) (hb2 : b ≤ q * (s * 2) + s * 2) (hbn : b = n ∨ b = q * (s * 2) + s * 2) :
    Ord lt tag (q * (s * 2)) (q * (s * 2) + s) d ∧ Ord lt tag (q * (s * 2) + s) b d ∧ Sep tag (q * (s * 2)) (q * (s * 2) + s) b d := by
  have e := two_mul' q s
  have t1 := h.todo (q * 2) (Nat.le_refl _)
  have t2 := h.todo (q * 2 + 1) (by omega)
  rw [Nat.add_mul, Nat.one_mul, e] at t2
  rw [e] at t1
  refine ⟨fun i j x y z => t1 i j x y (by omega), fun i j x y z => t2 i j x y (by omega), fun i j x y z u => ?_⟩
  have h1 := h.tags i x (by omega)
  have h2 := h.tags j (by omega) (by omega)
  have e1 : i / s = q * 2 := Nat.div_eq_of_lt_le (by rw [e]; exact x) (by rw [Nat.add_mul, Nat.one_mul, e]; exact y)
  have e2 : q * 2 + 1 ≤ j / s := (Nat.le_div_iff_mul_le hs).2 (by rw [Nat.add_mul, Nat.one_mul, e]; exact z)
  by_cases hc : tag d[i]! < tag d[j]!
  · exact hc
  · have := Nat.div_le_div_right (c := s) (Nat.le_of_not_lt hc)
    omega
theorem Half.step {s n q : Nat} {d d' : Array α} (h : Half lt tag s n q d) (hs : 0 < s) (hn : n = d.size) (hb : q * (s * 2) + s * 2 ≤ n) (hp : PermIn (q * (s * 2)) (q * (s * 2) + s * 2) d d') (ho : Ord lt tag (q * (s * 2)) (q * (s * 2) + s * 2) d') : Half lt tag s n (q + 1) d' := by
  have e : (q + 1) * (s * 2) = q * (s * 2) + s * 2 := by rw [Nat.add_mul, Nat.one_mul]
  refine ⟨fun p hpq => ?_, fun r hr => ?_, fun i x y => ?_, h.tags2.perm (q := q) (by omega) hp hn hb (Nat.le_refl _) (Nat.le_refl _)⟩
  · by_cases hc : p = q
    · subst hc; exact ho
    · have hle : (p + 1) * (s * 2) ≤ q * (s * 2) := Nat.mul_le_mul_right _ (by omega)
      rw [Nat.add_mul, Nat.one_mul] at hle
      exact (h.done p (by omega)).same fun t x y => hp.2.1 t (by omega)
  · have hle : (q + 1) * 2 * s ≤ r * s := Nat.mul_le_mul_right _ hr
    rw [two_mul', e] at hle
    exact (h.todo r (by omega)).same fun t x y => hp.2.1 t (by omega)
  · rw [e] at x
    rw [hp.2.1 i (by omega)]; exact h.tags i (by omega) y
/-- the last block, merged or of one block of s alone -/
theorem Half.last {s n q : Nat} {d d' : Array α} (h : Half lt tag s n q d) (hs : 0 < s) (hn : n = d.size) (hq : q * (s * 2) ≤ n) (hb : n < q * (s * 2) + s * 2) (hp : PermIn (q * (s * 2)) n d d') (ho : Ord lt tag (q * (s * 2)) n d') : BOrd lt tag (s * 2) n d' ∧ InBlk tag (s * 2) n d' := by
  refine ⟨fun p => ?_, h.tags2.perm (q := q) (by omega) hp hn (Nat.le_refl _) (Nat.le_refl _) (by omega)⟩
  by_cases h1 : p < q
  · have hle : (p + 1) * (s * 2) ≤ q * (s * 2) := Nat.mul_le_mul_right _ (by omega)
    rw [Nat.add_mul, Nat.one_mul] at hle
    rw [Nat.min_eq_left (by omega)]
    exact (h.done p h1).same fun t x y => hp.2.1 t (by omega)
  · by_cases h2 : p = q
    · subst h2
      rw [Nat.min_eq_right (by omega)]; exact ho
    · have hle : (q + 1) * (s * 2) ≤ p * (s * 2) := Nat.mul_le_mul_right _ (by omega)
      rw [Nat.add_mul, Nat.one_mul] at hle
      exact Ord.nil _ _ _ (by omega)
theorem Half.lone {s n q : Nat} {d : Array α} (h : Half lt tag s n q d) (hs : n ≤ q * (s * 2) + s) : Ord lt tag (q * (s * 2)) n d := by
  have t1 := h.todo (q * 2) (Nat.le_refl _)
  rw [two_mul'] at t1
  exact fun i j x y z => t1 i j x y (by omega)
/-- the first round: q blocks of s are in order, the rest is as it was -/
structure First (lt : α → α → Bool) (tag : α → Nat) (s n q : Nat) (d0 d : Array α) : Prop where
  done : ∀ p, p < q → Ord lt tag (p * s) (p * s + s) d
  rest : ∀ i, q * s ≤ i → d[i]! = d0[i]!
  tags : InBlk tag s n d
theorem First.start {s n : Nat} {d0 : Array α} (ht : ∀ i, i < n → tag d0[i]! = i) : First lt tag s n 0 d0 d0 := ⟨fun p hp => by omega, fun _ _ => rfl, fun i hi => by rw [ht i hi]⟩
theorem First.rise {s n q b : Nat} {d0 d : Array α} (h : First lt tag s n q d0 d) (ht : ∀ i, i < n → tag d0[i]! = i) (hb : b ≤ n) : Rise tag (q * s) b d := fun i j x y z => by
  rw [h.rest i x, h.rest j (by omega), ht i (by omega), ht j (by omega)]; exact y
theorem First.step {s n q : Nat} {d0 d d' : Array α} (h : First lt tag s n q d0 d) (hs : 0 < s) (hn : n = d.size) (hb : q * s + s ≤ n) (hp : PermIn (q * s) (q * s + s) d d') (ho : Ord lt tag (q * s) (q * s + s) d') : First lt tag s n (q + 1) d0 d' := by
  have e : (q + 1) * s = q * s + s := by rw [Nat.add_mul, Nat.one_mul]
  refine ⟨fun p hpq => ?_, fun i x => ?_, h.tags.perm (q := q) hs hp hn hb (Nat.le_refl _) (Nat.le_refl _)⟩
  · by_cases hc : p = q
    · subst hc; exact ho
    · have hle : (p + 1) * s ≤ q * s := Nat.mul_le_mul_right _ (by omega)
      rw [Nat.add_mul, Nat.one_mul] at hle
      exact (h.done p (by omega)).same fun t x y => hp.2.1 t (by omega)
  · rw [e] at x
    rw [hp.2.1 i (by omega)]; exact h.rest i (by omega)
theorem First.last {s n q : Nat} {d0 d d' : Array α} (h : First lt tag s n q d0 d) (hs : 0 < s) (hn : n = d.size) (hq : q * s ≤ n) (hb : n < q * s + s) (hp : PermIn (q * s) n d d') (ho : Ord lt tag (q * s) n d') : BOrd lt tag s n d' ∧ InBlk tag s n d' := by
  refine ⟨fun p => ?_, h.tags.perm (q := q) hs hp hn (Nat.le_refl _) (Nat.le_refl _) (by omega)⟩
  by_cases h1 : p < q
  · have hle : (p + 1) * s ≤ q * s := Nat.mul_le_mul_right _ (by omega)
    rw [Nat.add_mul, Nat.one_mul] at hle
    rw [Nat.min_eq_left (by omega)]
    exact (h.done p h1).same fun t x y => hp.2.1 t (by omega)
  · by_cases h2 : p = q
    · subst h2
      rw [Nat.min_eq_right (by omega)]; exact ho
    · have hle : (q + 1) * s ≤ p * s := Nat.mul_le_mul_right _ (by omega)
      rw [Nat.add_mul, Nat.one_mul] at hle
      exact Ord.nil _ _ _ (by omega)
end Go.Proofs.YtjhbffndiaggmaaGreatDoor
