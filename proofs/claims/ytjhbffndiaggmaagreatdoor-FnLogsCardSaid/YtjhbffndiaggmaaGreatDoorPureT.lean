/-
  Texts: numbers in decimal, numbers joined by a text, and what a sum of texts runs to. No function of the program stands here.
-/
import Derived.Test.YtjhbffndiaggmaaGreatDoorProg
import Derived.KernelRfl
import Derived.WalkKit
import Derived.Lib.Hide
import Derived.Lib.ItoaNum
import Derived.Lib.Join
import Derived.Laws.Concat
namespace Go.Proofs.YtjhbffndiaggmaaGreatDoor
open Go.RowKit
set_option linter.unusedVariables false

/-- a text out of its bytes -/
def str (l : List UInt8) : ByteArray := ⟨l.toArray⟩
theorem str_size (l : List UInt8) : (str l).size = l.length := by show l.toArray.size = _; simp
theorem str_toList (l : List UInt8) : (str l).data.toList = l := by simp [str]
theorem str_append (a b : List UInt8) : str a ++ str b = str (a ++ b) := by
  unfold str; rw [ByteArray.mk_append_mk]; first | done | simp
theorem str_of (s : ByteArray) : str s.data.toList = s := by unfold str; simp
theorem str_inj {a b : List UInt8} (h : str a = str b) : a = b := by
  have := congrArg (fun s : ByteArray => s.data.toList) h
  simpa [str] using this
/-- a sum of two texts -/
theorem run_cat (a b : List UInt8) (h : a.length + b.length ≤ 9223372036854775807) (w : World) : (Op.stringOp .add (str a) (str b)).run Tryz.prog w = .ok (.string (str (a ++ b))) w := by
  rw [run_string_add_sum w _ _ (by rw [str_size, str_size]; exact h), str_append]

/-! ### numbers in decimal -/
def numS (n : Int) : List UInt8 := Lib.itoa n
theorem numS_digits {n : Int} (h : 0 ≤ n) : numS n = Lib.decDigits n.toNat := by
  unfold numS Lib.itoa; rw [if_neg (by omega)]
theorem numS_lt {n : Int} (h : 0 ≤ n) (h1 : n < 10) : numS n = [UInt8.ofNat (48 + n.toNat)] := by
  rw [numS_digits h, Lib.decDigits, dif_pos (by omega)]
theorem numS_ge {n : Int} (h1 : 10 ≤ n) : numS n = numS (n / 10) ++ [UInt8.ofNat (48 + (n % 10).toNat)] := by
  rw [numS_digits (by omega), numS_digits (by omega), Lib.decDigits, dif_neg (by omega)]
  have e1 : (n / 10).toNat = n.toNat / 10 := by omega
  have e2 : (n % 10).toNat = n.toNat % 10 := by omega
  rw [e1, e2]
theorem decDigits_le : ∀ (k u : Nat), u < 10 ^ (k + 1) → (Lib.decDigits u).length ≤ k + 1 := by
  intro k
  induction k with
  | zero => intro u h; rw [Lib.decDigits_one (by omega)]; simp
  | succ k ih =>
    intro u h
    rw [Lib.decDigits]
    split
    · simp
    · have h2 : u / 10 < 10 ^ (k + 1) := by rw [Nat.pow_succ] at h; omega
      have := ih (u / 10) h2
      simp; omega
theorem numS_len {n : Int} (h : 0 ≤ n) (h1 : n ≤ 9223372036854775807) : (numS n).length ≤ 19 := by
  rw [numS_digits h]
  exact decDigits_le 18 n.toNat (by omega)
theorem numS_pos {n : Int} (h : 0 ≤ n) : 0 < (numS n).length := by
  rw [numS_digits h, Lib.decDigits_length]
  exact Lib.nDigits_pos _

/-! ### numbers joined by a text -/
def joinS (l : List Int) (sep : List UInt8) : List UInt8 := Lib.join (l.map numS) sep
theorem joinS_nil (sep : List UInt8) : joinS [] sep = [] := rfl
theorem joinS_one (n : Int) (sep : List UInt8) : joinS [n] sep = numS n := Lib.join_one _ _
theorem joinS_snoc {l : List Int} (h : l ≠ []) (n : Int) (sep : List UInt8) : joinS (l ++ [n]) sep = joinS l sep ++ (sep ++ numS n) := by
  cases l with
  | nil => exact absurd rfl h
  | cons x r =>
    unfold joinS
    rw [List.cons_append, List.map_cons, List.map_cons, List.map_append, Lib.join_cons, Lib.join_cons]
    simp [Lib.joinTail]
theorem joinS_succ {l : List Int} {sep : List UInt8} {k : Nat} (h : k < l.length) : joinS (l.take (k + 1)) sep = if k = 0 then numS l[k] else joinS (l.take k) sep ++ (sep ++ numS l[k]) := by
  rw [List.take_succ_eq_append_getElem h]
  split
  · subst k; simp [joinS_one]
  · rw [joinS_snoc]
    intro e
    have := congrArg List.length e
    rw [List.length_take, List.length_nil] at this
    omega
theorem joinS_len {l : List Int} {sep : List UInt8} (h : ∀ n ∈ l, 0 ≤ n ∧ n ≤ 9223372036854775807) (hs : sep.length ≤ 1) : (joinS l sep).length ≤ 20 * l.length := by
  have key : ∀ k, k ≤ l.length → (joinS (l.take k) sep).length ≤ 20 * k := by
    intro k
    induction k with
    | zero => intro _; simp [joinS_nil]
    | succ k ih =>
      intro hk
      have h1 := ih (by omega)
      have h2 := h l[k] (List.getElem_mem (by omega))
      have h3 := numS_len h2.1 h2.2
      rw [joinS_succ (by omega)]
      split
      · omega
      · simp only [List.length_append]; omega
  have := key l.length (Nat.le_refl _)
  rwa [List.take_length] at this
end Go.Proofs.YtjhbffndiaggmaaGreatDoor
