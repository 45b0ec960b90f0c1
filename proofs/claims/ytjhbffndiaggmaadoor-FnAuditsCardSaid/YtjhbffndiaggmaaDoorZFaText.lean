/-
  Contracts of FaultText, in the reference and in the program. The conditions are a bound on a length, and the library's table.
-/
import Derived.Test.YtjhbffndiaggmaaDoorZJoinN
import Derived.Test.YtjhbffndiaggmaaDoorB11
import Derived.Deep.RegionHeld3
namespace Go.Proofs.YtjhbffndiaggmaaDoor
open Go.RowKit Go.ChangeShapes Go.WideShapes
set_option linter.unusedVariables false
set_option linter.unusedSimpArgs false

def ftK (c : Int) : List UInt8 := if c = 1 then [109, 105, 115, 115, 105, 110, 103] else if c = 2 then [109, 105, 115, 114, 101, 97, 100] else if c = 3 then [101, 97, 114, 108, 121] else if c = 4 then [117, 110, 107, 110, 111, 119, 110] else [99, 104, 97, 110, 103, 101, 100]
theorem ftK_len (c : Int) : (ftK c).length ≤ 7 := by unfold ftK; split <;> (try split) <;> (try split) <;> (try split) <;> simp
def f1 (a : Int) : List UInt8 := numS a ++ [47]
def f2 (a b : Int) : List UInt8 := f1 a ++ numS b
def f3 (a b : Int) : List UInt8 := f2 a b ++ [32]
def f4 (a b c : Int) : List UInt8 := f3 a b ++ ftK c
def f5 (a b c : Int) : List UInt8 := f4 a b c ++ [32, 97, 116, 32]
def f6 (a b c d : Int) : List UInt8 := f5 a b c ++ numS d
def ftB (l : List Int) : Bool := decide (l.length = 4) && (inB (l.getD 0 0) 1 999 && (inB (l.getD 1 0) 0 8 && (inB (l.getD 2 0) 1 5 && inB (l.getD 3 0) 0 7)))
def ftL (l : List Int) : List UInt8 := if ftB l then f6 (l.getD 0 0) (l.getD 1 0) (l.getD 2 0) (l.getD 3 0) else []
theorem f2_join (a b : Int) : joinS [a, b] [47] = f2 a b := by
  have h := joinS_snoc (l := [a]) (by simp) b [47]
  rw [joinS_one] at h
  exact h.trans (by simp [f2, f1])
theorem rd_two {w : World} {lo hi b0 off : Nat} {a b c d : Int} (h : Rd w lo hi (some ⟨b0, off, none⟩) [a, b, c, d]) : Rd w lo hi (some ⟨b0, off, none⟩) [a, b] := fun _ => by
  obtain ⟨b', off', e, a1, a2, hc⟩ := h (by simp)
  exact ⟨b', off', e, a1, a2, fun j hj => by
    have h2 : j < 2 := hj
    have := hc j (by simp; omega)
    rcases j with _ | _ | j
    · exact this
    · exact this
    · omega⟩
theorem rd_last {w : World} {lo hi b0 off : Nat} {a b c d : Int} (h : Rd w lo hi (some ⟨b0, off, none⟩) [a, b, c, d]) : Rd w lo hi (some ⟨b0, off + 3, none⟩) [d] := fun _ => by
  obtain ⟨b', off', e, a1, a2, hc⟩ := h (by simp)
  obtain rfl : b0 = b' := congrArg Addr.block (Option.some.inj e)
  obtain rfl : off = off' := congrArg Addr.off (Option.some.inj e)
  exact ⟨b0, off + 3, rfl, a1, a2, fun j hj => by
    have h2 : j < 1 := hj
    obtain rfl : j = 0 := by omega
    exact hc 3 (by simp)⟩
theorem jn_two (a b : Int) (A : Option Addr) (c : Nat) {lo hi : Nat} (w : World) (hr : Rd w lo hi A [a, b]) (ha : 0 ≤ a ∧ a ≤ 999) (hb : 0 ≤ b ∧ b ≤ 999) (hp : Pow w) :
    Calls Tryd.prog 40 #[.slice A 2 c, .string { data := #[47] }] w fun e w' => e = .returned (.string (str (f2 a b))) ∧ Below w.heap.size w w' := by
  have h := joinNumbers_any [a, b] A c [47] w hr (by simp) (by intro n hn; simp at hn; omega) hp (by simp)
  rw [f2_join] at h
  exact h
theorem jn_last (d : Int) (A : Option Addr) (c : Nat) {lo hi : Nat} (w : World) (hr : Rd w lo hi A [d]) (ha : 0 ≤ d ∧ d ≤ 999) (hp : Pow w) :
    Calls Tryd.prog 40 #[.slice A 1 c, .string { data := #[] }] w fun e w' => e = .returned (.string (str (numS d))) ∧ Below w.heap.size w w' := by
  have h := joinNumbers_any [d] A c [] w hr (by simp) (by intro n hn; simp at hn; omega) hp (by simp)
  rw [joinS_one] at h
  exact h
theorem ft_no {l : List Int} (h : ftB l = false) : ftL l = [] := by simp [ftL, h]
theorem ft_four {l : List Int} (h : l.length = 4) : ∃ a b c d, l = [a, b, c, d] := by
  match l, h with
  | [a, b, c, d], _ => exact ⟨a, b, c, d, rfl⟩

set_option maxRecDepth 100000 in
set_option maxHeartbeats 4000000 in
theorem sFault1 (a b d : Int) (A : Option Addr) (cc : Nat) {l h : Nat} (w : World) (hr : Rd w l h A [a, b, 1, d]) (q1 : inB a 1 999 = true) (q2 : inB b 0 8 = true) (q4 : inB d 0 7 = true) :
    Calls Tryd.prog 18 #[.slice A 4 cc] w fun e w' => e = .returned (.tuple #[.string (str (f6 a b 1 d)), .bool true]) ∧ Below w.heap.size w w' := by
  obtain ⟨ha0, ha1⟩ : 1 ≤ a ∧ a ≤ 999 := by simpa [inB] using q1
  obtain ⟨hb0, hb1⟩ : 0 ≤ b ∧ b ≤ 8 := by simpa [inB] using q2
  obtain ⟨hd0, hd1⟩ : 0 ≤ d ∧ d ≤ 7 := by simpa [inB] using q4
  have la := numS_len (n := a) (by omega) (by omega)
  have lb := numS_len (n := b) (by omega) (by omega)
  have ld := numS_len (n := d) (by omega) (by omega)
  have lk := ftK_len 1
  have e1 : (f1 a).length = (numS a).length + 1 := by simp [f1]
  have e2 : (f2 a b).length = (f1 a).length + (numS b).length := by simp [f2]
  have e3 : (f3 a b).length = (f2 a b).length + 1 := by simp [f3]
  have e4 : (f4 a b 1).length = (f3 a b).length + (ftK 1).length := by simp [f4]
  have e5 : (f5 a b 1).length = (f4 a b 1).length + 4 := by simp [f5]
  have j1 : str (numS a) ++ { data := #[47] } = str (f1 a) := by show str (numS a) ++ str [47] = _; rw [str_append]; rfl
  have j2 : str (f1 a) ++ str (numS b) = str (f2 a b) := by rw [str_append]; rfl
  have j3 : str (f2 a b) ++ { data := #[32] } = str (f3 a b) := by show str (f2 a b) ++ str [32] = _; rw [str_append]; rfl
  have j4 : str (f3 a b) ++ { data := #[109, 105, 115, 115, 105, 110, 103] } = str (f4 a b 1) := by show str (f3 a b) ++ str (ftK 1) = _; rw [str_append]; rfl
  have j5 : str (f4 a b 1) ++ { data := #[32, 97, 116, 32] } = str (f5 a b 1) := by show str (f4 a b 1) ++ str [32, 97, 116, 32] = _; rw [str_append]; rfl
  have j6 : str (f5 a b 1) ++ str (numS d) = str (f6 a b 1 d) := by rw [str_append]; rfl
  have z1 : (str (numS a)).size + 1 ≤ 9223372036854775807 := by rw [str_size]; omega
  have z2 : (str (f1 a)).size + (str (numS b)).size ≤ 9223372036854775807 := by rw [str_size, str_size]; omega
  have z3 : (str (f2 a b)).size + 1 ≤ 9223372036854775807 := by rw [str_size]; omega
  have z4 : (str (f3 a b)).size + 7 ≤ 9223372036854775807 := by rw [str_size]; omega
  have z5 : (str (f4 a b 1)).size + 4 ≤ 9223372036854775807 := by rw [str_size]; omega
  have z6 : (str (f5 a b 1)).size + (str (numS d)).size ≤ 9223372036854775807 := by rw [str_size, str_size]; omega
  have n1 : ¬ (9223372036854775807 < (str (numS a)).size + 1) := by omega
  have n2 : ¬ (9223372036854775807 < (str (f1 a)).size + (str (numS b)).size) := by omega
  have n3 : ¬ (9223372036854775807 < (str (f2 a b)).size + 1) := by omega
  have n4 : ¬ (9223372036854775807 < (str (f3 a b)).size + 7) := by omega
  have n5 : ¬ (9223372036854775807 < (str (f4 a b 1)).size + 4) := by omega
  have n6 : ¬ (9223372036854775807 < (str (f5 a b 1)).size + (str (numS d)).size) := by omega
  clear z1 z2 z3 z4 z5 z6 e1 e2 e3 e4 e5 lk
  have hr := hr.std
  have hc := hr (by simp)
  obtain ⟨b0, off, rfl, _, hlt0, hc⟩ := hc
  have x0 := hc 0 (by simp)
  have x1 := hc 1 (by simp)
  have x2 := hc 2 (by simp)
  have x3 := hc 3 (by simp)
  simp at x0 x1 x2 x3
  clear hc
  go_enter Tryd.func18, Tryd.ntmps18
  go_wp2_with fail
  (with_reducible refine (l1In_u a 1 999 _ _ q1).mono ?_)
  rintro e w1 ⟨rfl, rfl⟩
  go_wp2_with fail
  (with_reducible refine (l1In_u b 0 8 _ _ q2).mono ?_)
  rintro e w2 ⟨rfl, rfl⟩
  go_wp2_with fail
  (with_reducible refine (l1In_u 1 1 5 _ _ rfl).mono ?_)
  rintro e w3 ⟨rfl, rfl⟩
  go_wp2_with fail
  (with_reducible refine (l1In_u d 0 7 _ _ q4).mono ?_)
  rintro e w4 ⟨rfl, rfl⟩
  obtain ⟨W, hW⟩ : ∃ W, W = w.alloc (.cells #[.string { data := #[109, 105, 115, 115, 105, 110, 103] }, .string { data := #[109, 105, 115, 114, 101, 97, 100] }, .string { data := #[101, 97, 114, 108, 121] }, .string { data := #[117, 110, 107, 110, 111, 119, 110] }, .string { data := #[99, 104, 97, 110, 103, 101, 100] }] 9) := ⟨_, rfl⟩
  have sW : W.heap.size = w.heap.size + 1 := by rw [hW]; simp
  have hBW : Below w.heap.size w W := by rw [hW]; exact (Below.refl _ _).alloc (Nat.le_refl _) _
  have y0 : W.cell? ⟨b0, off, none⟩ = some (.int .i64 a) := by rw [hW, World.cell?_alloc_lt w _ _ hlt0]; exact x0
  have y1 : W.cell? ⟨b0, off + 1, none⟩ = some (.int .i64 b) := by rw [hW, World.cell?_alloc_lt w _ _ hlt0]; exact x1
  have y3 : W.cell? ⟨b0, off + 3, none⟩ = some (.int .i64 d) := by rw [hW, World.cell?_alloc_lt w _ _ hlt0]; exact x3
  go_wp2_with fail
  rw [← hW]
  clear hW x0 x1 x2 x3
  go_region_held3 (fun w' => w'.cell? ⟨b0, off, none⟩ = some (.int .i64 a) ∧ w'.cell? ⟨b0, off + 1, none⟩ = some (.int .i64 b) ∧ w'.cell? ⟨b0, off + 3, none⟩ = some (.int .i64 d))
    (first | go_keep | ((try go_split_ands); (try dsimp only); (repeat' apply And.intro) <;> (first | with_reducible assumption | ((with_reducible refine (hc6 _ _ ?_).trans ?_) <;> first | with_reducible assumption | omega | (simp <;> omega)) | ((with_reducible refine (hc5 _ _ ?_).trans ?_) <;> first | with_reducible assumption | omega | (simp <;> omega)) | ((with_reducible refine (hc4 _ _ ?_).trans ?_) <;> first | with_reducible assumption | omega | (simp <;> omega)) | go_keep)))
    (first
      | (go_at_call 42; ((with_reducible refine (l1Num_n a _ (by omega) (by omega)).mono ?_); rintro e w4 ⟨rfl, hb4⟩; (have hc4 := (bcell hb4).1); (have s4 : W.heap.size ≤ w4.heap.size := hb4.size)))
      | (go_at_call 42; ((with_reducible refine (l1Num_n b _ (by omega) (by omega)).mono ?_); rintro e w5 ⟨rfl, hb5⟩; (have hc5 := (bcell hb5).1); (have s5 : w4.heap.size ≤ w5.heap.size := hb5.size)))
      | (go_at_call 42; ((with_reducible refine (l1Num_n d _ (by omega) (by omega)).mono ?_); rintro e w6 ⟨rfl, hb6⟩; (have hc6 := (bcell hb6).1); (have s6 : w5.heap.size ≤ w6.heap.size := hb6.size))))
  have hB : Below w.heap.size w w6 := (((hBW.drew).trans (hb4.mono (by show w.heap.size ≤ W.heap.size; omega))).trans (hb5.mono (by omega))).trans (hb6.mono (by omega))
  clear hb4 hb5 hb6 hc4 hc5 hc6
  go_wp2_with fail
  go_ret2
  exact ⟨rfl, hB⟩

set_option maxRecDepth 100000 in
set_option maxHeartbeats 4000000 in
theorem sFault2 (a b d : Int) (A : Option Addr) (cc : Nat) {l h : Nat} (w : World) (hr : Rd w l h A [a, b, 2, d]) (q1 : inB a 1 999 = true) (q2 : inB b 0 8 = true) (q4 : inB d 0 7 = true) :
    Calls Tryd.prog 18 #[.slice A 4 cc] w fun e w' => e = .returned (.tuple #[.string (str (f6 a b 2 d)), .bool true]) ∧ Below w.heap.size w w' := by
  obtain ⟨ha0, ha1⟩ : 1 ≤ a ∧ a ≤ 999 := by simpa [inB] using q1
  obtain ⟨hb0, hb1⟩ : 0 ≤ b ∧ b ≤ 8 := by simpa [inB] using q2
  obtain ⟨hd0, hd1⟩ : 0 ≤ d ∧ d ≤ 7 := by simpa [inB] using q4
  have la := numS_len (n := a) (by omega) (by omega)
  have lb := numS_len (n := b) (by omega) (by omega)
  have ld := numS_len (n := d) (by omega) (by omega)
  have lk := ftK_len 2
  have e1 : (f1 a).length = (numS a).length + 1 := by simp [f1]
  have e2 : (f2 a b).length = (f1 a).length + (numS b).length := by simp [f2]
  have e3 : (f3 a b).length = (f2 a b).length + 1 := by simp [f3]
  have e4 : (f4 a b 2).length = (f3 a b).length + (ftK 2).length := by simp [f4]
  have e5 : (f5 a b 2).length = (f4 a b 2).length + 4 := by simp [f5]
  have j1 : str (numS a) ++ { data := #[47] } = str (f1 a) := by show str (numS a) ++ str [47] = _; rw [str_append]; rfl
  have j2 : str (f1 a) ++ str (numS b) = str (f2 a b) := by rw [str_append]; rfl
  have j3 : str (f2 a b) ++ { data := #[32] } = str (f3 a b) := by show str (f2 a b) ++ str [32] = _; rw [str_append]; rfl
  have j4 : str (f3 a b) ++ { data := #[109, 105, 115, 114, 101, 97, 100] } = str (f4 a b 2) := by show str (f3 a b) ++ str (ftK 2) = _; rw [str_append]; rfl
  have j5 : str (f4 a b 2) ++ { data := #[32, 97, 116, 32] } = str (f5 a b 2) := by show str (f4 a b 2) ++ str [32, 97, 116, 32] = _; rw [str_append]; rfl
  have j6 : str (f5 a b 2) ++ str (numS d) = str (f6 a b 2 d) := by rw [str_append]; rfl
  have z1 : (str (numS a)).size + 1 ≤ 9223372036854775807 := by rw [str_size]; omega
  have z2 : (str (f1 a)).size + (str (numS b)).size ≤ 9223372036854775807 := by rw [str_size, str_size]; omega
  have z3 : (str (f2 a b)).size + 1 ≤ 9223372036854775807 := by rw [str_size]; omega
  have z4 : (str (f3 a b)).size + 7 ≤ 9223372036854775807 := by rw [str_size]; omega
  have z5 : (str (f4 a b 2)).size + 4 ≤ 9223372036854775807 := by rw [str_size]; omega
  have z6 : (str (f5 a b 2)).size + (str (numS d)).size ≤ 9223372036854775807 := by rw [str_size, str_size]; omega
  have n1 : ¬ (9223372036854775807 < (str (numS a)).size + 1) := by omega
  have n2 : ¬ (9223372036854775807 < (str (f1 a)).size + (str (numS b)).size) := by omega
  have n3 : ¬ (9223372036854775807 < (str (f2 a b)).size + 1) := by omega
  have n4 : ¬ (9223372036854775807 < (str (f3 a b)).size + 7) := by omega
  have n5 : ¬ (9223372036854775807 < (str (f4 a b 2)).size + 4) := by omega
  have n6 : ¬ (9223372036854775807 < (str (f5 a b 2)).size + (str (numS d)).size) := by omega
  clear z1 z2 z3 z4 z5 z6 e1 e2 e3 e4 e5 lk
  have hr := hr.std
  have hc := hr (by simp)
  obtain ⟨b0, off, rfl, _, hlt0, hc⟩ := hc
  have x0 := hc 0 (by simp)
  have x1 := hc 1 (by simp)
  have x2 := hc 2 (by simp)
  have x3 := hc 3 (by simp)
  simp at x0 x1 x2 x3
  clear hc
  go_enter Tryd.func18, Tryd.ntmps18
  go_wp2_with fail
  (with_reducible refine (l1In_u a 1 999 _ _ q1).mono ?_)
  rintro e w1 ⟨rfl, rfl⟩
  go_wp2_with fail
  (with_reducible refine (l1In_u b 0 8 _ _ q2).mono ?_)
  rintro e w2 ⟨rfl, rfl⟩
  go_wp2_with fail
  (with_reducible refine (l1In_u 2 1 5 _ _ rfl).mono ?_)
  rintro e w3 ⟨rfl, rfl⟩
  go_wp2_with fail
  (with_reducible refine (l1In_u d 0 7 _ _ q4).mono ?_)
  rintro e w4 ⟨rfl, rfl⟩
  obtain ⟨W, hW⟩ : ∃ W, W = w.alloc (.cells #[.string { data := #[109, 105, 115, 115, 105, 110, 103] }, .string { data := #[109, 105, 115, 114, 101, 97, 100] }, .string { data := #[101, 97, 114, 108, 121] }, .string { data := #[117, 110, 107, 110, 111, 119, 110] }, .string { data := #[99, 104, 97, 110, 103, 101, 100] }] 9) := ⟨_, rfl⟩
  have sW : W.heap.size = w.heap.size + 1 := by rw [hW]; simp
  have hBW : Below w.heap.size w W := by rw [hW]; exact (Below.refl _ _).alloc (Nat.le_refl _) _
  have y0 : W.cell? ⟨b0, off, none⟩ = some (.int .i64 a) := by rw [hW, World.cell?_alloc_lt w _ _ hlt0]; exact x0
  have y1 : W.cell? ⟨b0, off + 1, none⟩ = some (.int .i64 b) := by rw [hW, World.cell?_alloc_lt w _ _ hlt0]; exact x1
  have y3 : W.cell? ⟨b0, off + 3, none⟩ = some (.int .i64 d) := by rw [hW, World.cell?_alloc_lt w _ _ hlt0]; exact x3
  go_wp2_with fail
  rw [← hW]
  clear hW x0 x1 x2 x3
  go_region_held3 (fun w' => w'.cell? ⟨b0, off, none⟩ = some (.int .i64 a) ∧ w'.cell? ⟨b0, off + 1, none⟩ = some (.int .i64 b) ∧ w'.cell? ⟨b0, off + 3, none⟩ = some (.int .i64 d))
    (first | go_keep | ((try go_split_ands); (try dsimp only); (repeat' apply And.intro) <;> (first | with_reducible assumption | ((with_reducible refine (hc6 _ _ ?_).trans ?_) <;> first | with_reducible assumption | omega | (simp <;> omega)) | ((with_reducible refine (hc5 _ _ ?_).trans ?_) <;> first | with_reducible assumption | omega | (simp <;> omega)) | ((with_reducible refine (hc4 _ _ ?_).trans ?_) <;> first | with_reducible assumption | omega | (simp <;> omega)) | go_keep)))
    (first
      | (go_at_call 42; ((with_reducible refine (l1Num_n a _ (by omega) (by omega)).mono ?_); rintro e w4 ⟨rfl, hb4⟩; (have hc4 := (bcell hb4).1); (have s4 : W.heap.size ≤ w4.heap.size := hb4.size)))
      | (go_at_call 42; ((with_reducible refine (l1Num_n b _ (by omega) (by omega)).mono ?_); rintro e w5 ⟨rfl, hb5⟩; (have hc5 := (bcell hb5).1); (have s5 : w4.heap.size ≤ w5.heap.size := hb5.size)))
      | (go_at_call 42; ((with_reducible refine (l1Num_n d _ (by omega) (by omega)).mono ?_); rintro e w6 ⟨rfl, hb6⟩; (have hc6 := (bcell hb6).1); (have s6 : w5.heap.size ≤ w6.heap.size := hb6.size))))
  have hB : Below w.heap.size w w6 := (((hBW.drew).trans (hb4.mono (by show w.heap.size ≤ W.heap.size; omega))).trans (hb5.mono (by omega))).trans (hb6.mono (by omega))
  clear hb4 hb5 hb6 hc4 hc5 hc6
  go_wp2_with fail
  go_ret2
  exact ⟨rfl, hB⟩

set_option maxRecDepth 100000 in
set_option maxHeartbeats 4000000 in
theorem sFault3 (a b d : Int) (A : Option Addr) (cc : Nat) {l h : Nat} (w : World) (hr : Rd w l h A [a, b, 3, d]) (q1 : inB a 1 999 = true) (q2 : inB b 0 8 = true) (q4 : inB d 0 7 = true) :
    Calls Tryd.prog 18 #[.slice A 4 cc] w fun e w' => e = .returned (.tuple #[.string (str (f6 a b 3 d)), .bool true]) ∧ Below w.heap.size w w' := by
  obtain ⟨ha0, ha1⟩ : 1 ≤ a ∧ a ≤ 999 := by simpa [inB] using q1
  obtain ⟨hb0, hb1⟩ : 0 ≤ b ∧ b ≤ 8 := by simpa [inB] using q2
  obtain ⟨hd0, hd1⟩ : 0 ≤ d ∧ d ≤ 7 := by simpa [inB] using q4
  have la := numS_len (n := a) (by omega) (by omega)
  have lb := numS_len (n := b) (by omega) (by omega)
  have ld := numS_len (n := d) (by omega) (by omega)
  have lk := ftK_len 3
  have e1 : (f1 a).length = (numS a).length + 1 := by simp [f1]
  have e2 : (f2 a b).length = (f1 a).length + (numS b).length := by simp [f2]
  have e3 : (f3 a b).length = (f2 a b).length + 1 := by simp [f3]
  have e4 : (f4 a b 3).length = (f3 a b).length + (ftK 3).length := by simp [f4]
  have e5 : (f5 a b 3).length = (f4 a b 3).length + 4 := by simp [f5]
  have j1 : str (numS a) ++ { data := #[47] } = str (f1 a) := by show str (numS a) ++ str [47] = _; rw [str_append]; rfl
  have j2 : str (f1 a) ++ str (numS b) = str (f2 a b) := by rw [str_append]; rfl
  have j3 : str (f2 a b) ++ { data := #[32] } = str (f3 a b) := by show str (f2 a b) ++ str [32] = _; rw [str_append]; rfl
  have j4 : str (f3 a b) ++ { data := #[101, 97, 114, 108, 121] } = str (f4 a b 3) := by show str (f3 a b) ++ str (ftK 3) = _; rw [str_append]; rfl
  have j5 : str (f4 a b 3) ++ { data := #[32, 97, 116, 32] } = str (f5 a b 3) := by show str (f4 a b 3) ++ str [32, 97, 116, 32] = _; rw [str_append]; rfl
  have j6 : str (f5 a b 3) ++ str (numS d) = str (f6 a b 3 d) := by rw [str_append]; rfl
  have z1 : (str (numS a)).size + 1 ≤ 9223372036854775807 := by rw [str_size]; omega
  have z2 : (str (f1 a)).size + (str (numS b)).size ≤ 9223372036854775807 := by rw [str_size, str_size]; omega
  have z3 : (str (f2 a b)).size + 1 ≤ 9223372036854775807 := by rw [str_size]; omega
  have z4 : (str (f3 a b)).size + 5 ≤ 9223372036854775807 := by rw [str_size]; omega
  have z5 : (str (f4 a b 3)).size + 4 ≤ 9223372036854775807 := by rw [str_size]; omega
  have z6 : (str (f5 a b 3)).size + (str (numS d)).size ≤ 9223372036854775807 := by rw [str_size, str_size]; omega
  have n1 : ¬ (9223372036854775807 < (str (numS a)).size + 1) := by omega
  have n2 : ¬ (9223372036854775807 < (str (f1 a)).size + (str (numS b)).size) := by omega
  have n3 : ¬ (9223372036854775807 < (str (f2 a b)).size + 1) := by omega
  have n4 : ¬ (9223372036854775807 < (str (f3 a b)).size + 5) := by omega
  have n5 : ¬ (9223372036854775807 < (str (f4 a b 3)).size + 4) := by omega
  have n6 : ¬ (9223372036854775807 < (str (f5 a b 3)).size + (str (numS d)).size) := by omega
  clear z1 z2 z3 z4 z5 z6 e1 e2 e3 e4 e5 lk
  have hr := hr.std
  have hc := hr (by simp)
  obtain ⟨b0, off, rfl, _, hlt0, hc⟩ := hc
  have x0 := hc 0 (by simp)
  have x1 := hc 1 (by simp)
  have x2 := hc 2 (by simp)
  have x3 := hc 3 (by simp)
  simp at x0 x1 x2 x3
  clear hc
  go_enter Tryd.func18, Tryd.ntmps18
  go_wp2_with fail
  (with_reducible refine (l1In_u a 1 999 _ _ q1).mono ?_)
  rintro e w1 ⟨rfl, rfl⟩
  go_wp2_with fail
  (with_reducible refine (l1In_u b 0 8 _ _ q2).mono ?_)
  rintro e w2 ⟨rfl, rfl⟩
  go_wp2_with fail
  (with_reducible refine (l1In_u 3 1 5 _ _ rfl).mono ?_)
  rintro e w3 ⟨rfl, rfl⟩
  go_wp2_with fail
  (with_reducible refine (l1In_u d 0 7 _ _ q4).mono ?_)
  rintro e w4 ⟨rfl, rfl⟩
  obtain ⟨W, hW⟩ : ∃ W, W = w.alloc (.cells #[.string { data := #[109, 105, 115, 115, 105, 110, 103] }, .string { data := #[109, 105, 115, 114, 101, 97, 100] }, .string { data := #[101, 97, 114, 108, 121] }, .string { data := #[117, 110, 107, 110, 111, 119, 110] }, .string { data := #[99, 104, 97, 110, 103, 101, 100] }] 9) := ⟨_, rfl⟩
  have sW : W.heap.size = w.heap.size + 1 := by rw [hW]; simp
  have hBW : Below w.heap.size w W := by rw [hW]; exact (Below.refl _ _).alloc (Nat.le_refl _) _
  have y0 : W.cell? ⟨b0, off, none⟩ = some (.int .i64 a) := by rw [hW, World.cell?_alloc_lt w _ _ hlt0]; exact x0
  have y1 : W.cell? ⟨b0, off + 1, none⟩ = some (.int .i64 b) := by rw [hW, World.cell?_alloc_lt w _ _ hlt0]; exact x1
  have y3 : W.cell? ⟨b0, off + 3, none⟩ = some (.int .i64 d) := by rw [hW, World.cell?_alloc_lt w _ _ hlt0]; exact x3
  go_wp2_with fail
  rw [← hW]
  clear hW x0 x1 x2 x3
  go_region_held3 (fun w' => w'.cell? ⟨b0, off, none⟩ = some (.int .i64 a) ∧ w'.cell? ⟨b0, off + 1, none⟩ = some (.int .i64 b) ∧ w'.cell? ⟨b0, off + 3, none⟩ = some (.int .i64 d))
    (first | go_keep | ((try go_split_ands); (try dsimp only); (repeat' apply And.intro) <;> (first | with_reducible assumption | ((with_reducible refine (hc6 _ _ ?_).trans ?_) <;> first | with_reducible assumption | omega | (simp <;> omega)) | ((with_reducible refine (hc5 _ _ ?_).trans ?_) <;> first | with_reducible assumption | omega | (simp <;> omega)) | ((with_reducible refine (hc4 _ _ ?_).trans ?_) <;> first | with_reducible assumption | omega | (simp <;> omega)) | go_keep)))
    (first
      | (go_at_call 42; ((with_reducible refine (l1Num_n a _ (by omega) (by omega)).mono ?_); rintro e w4 ⟨rfl, hb4⟩; (have hc4 := (bcell hb4).1); (have s4 : W.heap.size ≤ w4.heap.size := hb4.size)))
      | (go_at_call 42; ((with_reducible refine (l1Num_n b _ (by omega) (by omega)).mono ?_); rintro e w5 ⟨rfl, hb5⟩; (have hc5 := (bcell hb5).1); (have s5 : w4.heap.size ≤ w5.heap.size := hb5.size)))
      | (go_at_call 42; ((with_reducible refine (l1Num_n d _ (by omega) (by omega)).mono ?_); rintro e w6 ⟨rfl, hb6⟩; (have hc6 := (bcell hb6).1); (have s6 : w5.heap.size ≤ w6.heap.size := hb6.size))))
  have hB : Below w.heap.size w w6 := (((hBW.drew).trans (hb4.mono (by show w.heap.size ≤ W.heap.size; omega))).trans (hb5.mono (by omega))).trans (hb6.mono (by omega))
  clear hb4 hb5 hb6 hc4 hc5 hc6
  go_wp2_with fail
  go_ret2
  exact ⟨rfl, hB⟩

set_option maxRecDepth 100000 in
set_option maxHeartbeats 4000000 in
theorem sFault4 (a b d : Int) (A : Option Addr) (cc : Nat) {l h : Nat} (w : World) (hr : Rd w l h A [a, b, 4, d]) (q1 : inB a 1 999 = true) (q2 : inB b 0 8 = true) (q4 : inB d 0 7 = true) :
    Calls Tryd.prog 18 #[.slice A 4 cc] w fun e w' => e = .returned (.tuple #[.string (str (f6 a b 4 d)), .bool true]) ∧ Below w.heap.size w w' := by
  obtain ⟨ha0, ha1⟩ : 1 ≤ a ∧ a ≤ 999 := by simpa [inB] using q1
  obtain ⟨hb0, hb1⟩ : 0 ≤ b ∧ b ≤ 8 := by simpa [inB] using q2
  obtain ⟨hd0, hd1⟩ : 0 ≤ d ∧ d ≤ 7 := by simpa [inB] using q4
  have la := numS_len (n := a) (by omega) (by omega)
  have lb := numS_len (n := b) (by omega) (by omega)
  have ld := numS_len (n := d) (by omega) (by omega)
  have lk := ftK_len 4
  have e1 : (f1 a).length = (numS a).length + 1 := by simp [f1]
  have e2 : (f2 a b).length = (f1 a).length + (numS b).length := by simp [f2]
  have e3 : (f3 a b).length = (f2 a b).length + 1 := by simp [f3]
  have e4 : (f4 a b 4).length = (f3 a b).length + (ftK 4).length := by simp [f4]
  have e5 : (f5 a b 4).length = (f4 a b 4).length + 4 := by simp [f5]
  have j1 : str (numS a) ++ { data := #[47] } = str (f1 a) := by show str (numS a) ++ str [47] = _; rw [str_append]; rfl
  have j2 : str (f1 a) ++ str (numS b) = str (f2 a b) := by rw [str_append]; rfl
  have j3 : str (f2 a b) ++ { data := #[32] } = str (f3 a b) := by show str (f2 a b) ++ str [32] = _; rw [str_append]; rfl
  have j4 : str (f3 a b) ++ { data := #[117, 110, 107, 110, 111, 119, 110] } = str (f4 a b 4) := by show str (f3 a b) ++ str (ftK 4) = _; rw [str_append]; rfl
  have j5 : str (f4 a b 4) ++ { data := #[32, 97, 116, 32] } = str (f5 a b 4) := by show str (f4 a b 4) ++ str [32, 97, 116, 32] = _; rw [str_append]; rfl
  have j6 : str (f5 a b 4) ++ str (numS d) = str (f6 a b 4 d) := by rw [str_append]; rfl
  have z1 : (str (numS a)).size + 1 ≤ 9223372036854775807 := by rw [str_size]; omega
  have z2 : (str (f1 a)).size + (str (numS b)).size ≤ 9223372036854775807 := by rw [str_size, str_size]; omega
  have z3 : (str (f2 a b)).size + 1 ≤ 9223372036854775807 := by rw [str_size]; omega
  have z4 : (str (f3 a b)).size + 7 ≤ 9223372036854775807 := by rw [str_size]; omega
  have z5 : (str (f4 a b 4)).size + 4 ≤ 9223372036854775807 := by rw [str_size]; omega
  have z6 : (str (f5 a b 4)).size + (str (numS d)).size ≤ 9223372036854775807 := by rw [str_size, str_size]; omega
  have n1 : ¬ (9223372036854775807 < (str (numS a)).size + 1) := by omega
  have n2 : ¬ (9223372036854775807 < (str (f1 a)).size + (str (numS b)).size) := by omega
  have n3 : ¬ (9223372036854775807 < (str (f2 a b)).size + 1) := by omega
  have n4 : ¬ (9223372036854775807 < (str (f3 a b)).size + 7) := by omega
  have n5 : ¬ (9223372036854775807 < (str (f4 a b 4)).size + 4) := by omega
  have n6 : ¬ (9223372036854775807 < (str (f5 a b 4)).size + (str (numS d)).size) := by omega
  clear z1 z2 z3 z4 z5 z6 e1 e2 e3 e4 e5 lk
  have hr := hr.std
  have hc := hr (by simp)
  obtain ⟨b0, off, rfl, _, hlt0, hc⟩ := hc
  have x0 := hc 0 (by simp)
  have x1 := hc 1 (by simp)
  have x2 := hc 2 (by simp)
  have x3 := hc 3 (by simp)
  simp at x0 x1 x2 x3
  clear hc
  go_enter Tryd.func18, Tryd.ntmps18
  go_wp2_with fail
  (with_reducible refine (l1In_u a 1 999 _ _ q1).mono ?_)
  rintro e w1 ⟨rfl, rfl⟩
  go_wp2_with fail
  (with_reducible refine (l1In_u b 0 8 _ _ q2).mono ?_)
  rintro e w2 ⟨rfl, rfl⟩
  go_wp2_with fail
  (with_reducible refine (l1In_u 4 1 5 _ _ rfl).mono ?_)
  rintro e w3 ⟨rfl, rfl⟩
  go_wp2_with fail
  (with_reducible refine (l1In_u d 0 7 _ _ q4).mono ?_)
  rintro e w4 ⟨rfl, rfl⟩
  obtain ⟨W, hW⟩ : ∃ W, W = w.alloc (.cells #[.string { data := #[109, 105, 115, 115, 105, 110, 103] }, .string { data := #[109, 105, 115, 114, 101, 97, 100] }, .string { data := #[101, 97, 114, 108, 121] }, .string { data := #[117, 110, 107, 110, 111, 119, 110] }, .string { data := #[99, 104, 97, 110, 103, 101, 100] }] 9) := ⟨_, rfl⟩
  have sW : W.heap.size = w.heap.size + 1 := by rw [hW]; simp
  have hBW : Below w.heap.size w W := by rw [hW]; exact (Below.refl _ _).alloc (Nat.le_refl _) _
  have y0 : W.cell? ⟨b0, off, none⟩ = some (.int .i64 a) := by rw [hW, World.cell?_alloc_lt w _ _ hlt0]; exact x0
  have y1 : W.cell? ⟨b0, off + 1, none⟩ = some (.int .i64 b) := by rw [hW, World.cell?_alloc_lt w _ _ hlt0]; exact x1
  have y3 : W.cell? ⟨b0, off + 3, none⟩ = some (.int .i64 d) := by rw [hW, World.cell?_alloc_lt w _ _ hlt0]; exact x3
  go_wp2_with fail
  rw [← hW]
  clear hW x0 x1 x2 x3
  go_region_held3 (fun w' => w'.cell? ⟨b0, off, none⟩ = some (.int .i64 a) ∧ w'.cell? ⟨b0, off + 1, none⟩ = some (.int .i64 b) ∧ w'.cell? ⟨b0, off + 3, none⟩ = some (.int .i64 d))
    (first | go_keep | ((try go_split_ands); (try dsimp only); (repeat' apply And.intro) <;> (first | with_reducible assumption | ((with_reducible refine (hc6 _ _ ?_).trans ?_) <;> first | with_reducible assumption | omega | (simp <;> omega)) | ((with_reducible refine (hc5 _ _ ?_).trans ?_) <;> first | with_reducible assumption | omega | (simp <;> omega)) | ((with_reducible refine (hc4 _ _ ?_).trans ?_) <;> first | with_reducible assumption | omega | (simp <;> omega)) | go_keep)))
    (first
      | (go_at_call 42; ((with_reducible refine (l1Num_n a _ (by omega) (by omega)).mono ?_); rintro e w4 ⟨rfl, hb4⟩; (have hc4 := (bcell hb4).1); (have s4 : W.heap.size ≤ w4.heap.size := hb4.size)))
      | (go_at_call 42; ((with_reducible refine (l1Num_n b _ (by omega) (by omega)).mono ?_); rintro e w5 ⟨rfl, hb5⟩; (have hc5 := (bcell hb5).1); (have s5 : w4.heap.size ≤ w5.heap.size := hb5.size)))
      | (go_at_call 42; ((with_reducible refine (l1Num_n d _ (by omega) (by omega)).mono ?_); rintro e w6 ⟨rfl, hb6⟩; (have hc6 := (bcell hb6).1); (have s6 : w5.heap.size ≤ w6.heap.size := hb6.size))))
  have hB : Below w.heap.size w w6 := (((hBW.drew).trans (hb4.mono (by show w.heap.size ≤ W.heap.size; omega))).trans (hb5.mono (by omega))).trans (hb6.mono (by omega))
  clear hb4 hb5 hb6 hc4 hc5 hc6
  go_wp2_with fail
  go_ret2
  exact ⟨rfl, hB⟩

set_option maxRecDepth 100000 in
set_option maxHeartbeats 4000000 in
theorem sFault5 (a b d : Int) (A : Option Addr) (cc : Nat) {l h : Nat} (w : World) (hr : Rd w l h A [a, b, 5, d]) (q1 : inB a 1 999 = true) (q2 : inB b 0 8 = true) (q4 : inB d 0 7 = true) :
    Calls Tryd.prog 18 #[.slice A 4 cc] w fun e w' => e = .returned (.tuple #[.string (str (f6 a b 5 d)), .bool true]) ∧ Below w.heap.size w w' := by
  obtain ⟨ha0, ha1⟩ : 1 ≤ a ∧ a ≤ 999 := by simpa [inB] using q1
  obtain ⟨hb0, hb1⟩ : 0 ≤ b ∧ b ≤ 8 := by simpa [inB] using q2
  obtain ⟨hd0, hd1⟩ : 0 ≤ d ∧ d ≤ 7 := by simpa [inB] using q4
  have la := numS_len (n := a) (by omega) (by omega)
  have lb := numS_len (n := b) (by omega) (by omega)
  have ld := numS_len (n := d) (by omega) (by omega)
  have lk := ftK_len 5
  have e1 : (f1 a).length = (numS a).length + 1 := by simp [f1]
  have e2 : (f2 a b).length = (f1 a).length + (numS b).length := by simp [f2]
  have e3 : (f3 a b).length = (f2 a b).length + 1 := by simp [f3]
  have e4 : (f4 a b 5).length = (f3 a b).length + (ftK 5).length := by simp [f4]
  have e5 : (f5 a b 5).length = (f4 a b 5).length + 4 := by simp [f5]
  have j1 : str (numS a) ++ { data := #[47] } = str (f1 a) := by show str (numS a) ++ str [47] = _; rw [str_append]; rfl
  have j2 : str (f1 a) ++ str (numS b) = str (f2 a b) := by rw [str_append]; rfl
  have j3 : str (f2 a b) ++ { data := #[32] } = str (f3 a b) := by show str (f2 a b) ++ str [32] = _; rw [str_append]; rfl
  have j4 : str (f3 a b) ++ { data := #[99, 104, 97, 110, 103, 101, 100] } = str (f4 a b 5) := by show str (f3 a b) ++ str (ftK 5) = _; rw [str_append]; rfl
  have j5 : str (f4 a b 5) ++ { data := #[32, 97, 116, 32] } = str (f5 a b 5) := by show str (f4 a b 5) ++ str [32, 97, 116, 32] = _; rw [str_append]; rfl
  have j6 : str (f5 a b 5) ++ str (numS d) = str (f6 a b 5 d) := by rw [str_append]; rfl
  have z1 : (str (numS a)).size + 1 ≤ 9223372036854775807 := by rw [str_size]; omega
  have z2 : (str (f1 a)).size + (str (numS b)).size ≤ 9223372036854775807 := by rw [str_size, str_size]; omega
  have z3 : (str (f2 a b)).size + 1 ≤ 9223372036854775807 := by rw [str_size]; omega
  have z4 : (str (f3 a b)).size + 7 ≤ 9223372036854775807 := by rw [str_size]; omega
  have z5 : (str (f4 a b 5)).size + 4 ≤ 9223372036854775807 := by rw [str_size]; omega
  have z6 : (str (f5 a b 5)).size + (str (numS d)).size ≤ 9223372036854775807 := by rw [str_size, str_size]; omega
  have n1 : ¬ (9223372036854775807 < (str (numS a)).size + 1) := by omega
  have n2 : ¬ (9223372036854775807 < (str (f1 a)).size + (str (numS b)).size) := by omega
  have n3 : ¬ (9223372036854775807 < (str (f2 a b)).size + 1) := by omega
  have n4 : ¬ (9223372036854775807 < (str (f3 a b)).size + 7) := by omega
  have n5 : ¬ (9223372036854775807 < (str (f4 a b 5)).size + 4) := by omega
  have n6 : ¬ (9223372036854775807 < (str (f5 a b 5)).size + (str (numS d)).size) := by omega
  clear z1 z2 z3 z4 z5 z6 e1 e2 e3 e4 e5 lk
  have hr := hr.std
  have hc := hr (by simp)
  obtain ⟨b0, off, rfl, _, hlt0, hc⟩ := hc
  have x0 := hc 0 (by simp)
  have x1 := hc 1 (by simp)
  have x2 := hc 2 (by simp)
  have x3 := hc 3 (by simp)
  simp at x0 x1 x2 x3
  clear hc
  go_enter Tryd.func18, Tryd.ntmps18
  go_wp2_with fail
  (with_reducible refine (l1In_u a 1 999 _ _ q1).mono ?_)
  rintro e w1 ⟨rfl, rfl⟩
  go_wp2_with fail
  (with_reducible refine (l1In_u b 0 8 _ _ q2).mono ?_)
  rintro e w2 ⟨rfl, rfl⟩
  go_wp2_with fail
  (with_reducible refine (l1In_u 5 1 5 _ _ rfl).mono ?_)
  rintro e w3 ⟨rfl, rfl⟩
  go_wp2_with fail
  (with_reducible refine (l1In_u d 0 7 _ _ q4).mono ?_)
  rintro e w4 ⟨rfl, rfl⟩
  obtain ⟨W, hW⟩ : ∃ W, W = w.alloc (.cells #[.string { data := #[109, 105, 115, 115, 105, 110, 103] }, .string { data := #[109, 105, 115, 114, 101, 97, 100] }, .string { data := #[101, 97, 114, 108, 121] }, .string { data := #[117, 110, 107, 110, 111, 119, 110] }, .string { data := #[99, 104, 97, 110, 103, 101, 100] }] 9) := ⟨_, rfl⟩
  have sW : W.heap.size = w.heap.size + 1 := by rw [hW]; simp
  have hBW : Below w.heap.size w W := by rw [hW]; exact (Below.refl _ _).alloc (Nat.le_refl _) _
  have y0 : W.cell? ⟨b0, off, none⟩ = some (.int .i64 a) := by rw [hW, World.cell?_alloc_lt w _ _ hlt0]; exact x0
  have y1 : W.cell? ⟨b0, off + 1, none⟩ = some (.int .i64 b) := by rw [hW, World.cell?_alloc_lt w _ _ hlt0]; exact x1
  have y3 : W.cell? ⟨b0, off + 3, none⟩ = some (.int .i64 d) := by rw [hW, World.cell?_alloc_lt w _ _ hlt0]; exact x3
  go_wp2_with fail
  rw [← hW]
  clear hW x0 x1 x2 x3
  go_region_held3 (fun w' => w'.cell? ⟨b0, off, none⟩ = some (.int .i64 a) ∧ w'.cell? ⟨b0, off + 1, none⟩ = some (.int .i64 b) ∧ w'.cell? ⟨b0, off + 3, none⟩ = some (.int .i64 d))
    (first | go_keep | ((try go_split_ands); (try dsimp only); (repeat' apply And.intro) <;> (first | with_reducible assumption | ((with_reducible refine (hc6 _ _ ?_).trans ?_) <;> first | with_reducible assumption | omega | (simp <;> omega)) | ((with_reducible refine (hc5 _ _ ?_).trans ?_) <;> first | with_reducible assumption | omega | (simp <;> omega)) | ((with_reducible refine (hc4 _ _ ?_).trans ?_) <;> first | with_reducible assumption | omega | (simp <;> omega)) | go_keep)))
    (first
      | (go_at_call 42; ((with_reducible refine (l1Num_n a _ (by omega) (by omega)).mono ?_); rintro e w4 ⟨rfl, hb4⟩; (have hc4 := (bcell hb4).1); (have s4 : W.heap.size ≤ w4.heap.size := hb4.size)))
      | (go_at_call 42; ((with_reducible refine (l1Num_n b _ (by omega) (by omega)).mono ?_); rintro e w5 ⟨rfl, hb5⟩; (have hc5 := (bcell hb5).1); (have s5 : w4.heap.size ≤ w5.heap.size := hb5.size)))
      | (go_at_call 42; ((with_reducible refine (l1Num_n d _ (by omega) (by omega)).mono ?_); rintro e w6 ⟨rfl, hb6⟩; (have hc6 := (bcell hb6).1); (have s6 : w5.heap.size ≤ w6.heap.size := hb6.size))))
  have hB : Below w.heap.size w w6 := (((hBW.drew).trans (hb4.mono (by show w.heap.size ≤ W.heap.size; omega))).trans (hb5.mono (by omega))).trans (hb6.mono (by omega))
  clear hb4 hb5 hb6 hc4 hc5 hc6
  go_wp2_with fail
  go_ret2
  exact ⟨rfl, hB⟩

set_option maxRecDepth 100000 in
set_option maxHeartbeats 4000000 in
theorem iFault1 (a b d : Int) (A : Option Addr) (cc : Nat) {l h : Nat} (w : World) (hr : Rd w l h A [a, b, 1, d]) (q1 : inB a 1 999 = true) (q2 : inB b 0 8 = true) (q4 : inB d 0 7 = true) (hcap : 4 ≤ cc) (hP : Pow w) :
    Calls Tryd.prog 17 #[.slice A 4 cc] w fun e w' => e = .returned (.tuple #[.string (str (f6 a b 1 d)), .bool true]) ∧ Below w.heap.size w w' := by
  obtain ⟨ha0, ha1⟩ : 1 ≤ a ∧ a ≤ 999 := by simpa [inB] using q1
  obtain ⟨hb0, hb1⟩ : 0 ≤ b ∧ b ≤ 8 := by simpa [inB] using q2
  obtain ⟨hd0, hd1⟩ : 0 ≤ d ∧ d ≤ 7 := by simpa [inB] using q4
  have la := numS_len (n := a) (by omega) (by omega)
  have lb := numS_len (n := b) (by omega) (by omega)
  have ld := numS_len (n := d) (by omega) (by omega)
  have lk := ftK_len 1
  have e1 : (f1 a).length = (numS a).length + 1 := by simp [f1]
  have e2 : (f2 a b).length = (f1 a).length + (numS b).length := by simp [f2]
  have e3 : (f3 a b).length = (f2 a b).length + 1 := by simp [f3]
  have e4 : (f4 a b 1).length = (f3 a b).length + (ftK 1).length := by simp [f4]
  have e5 : (f5 a b 1).length = (f4 a b 1).length + 4 := by simp [f5]
  have j1 : str (numS a) ++ { data := #[47] } = str (f1 a) := by show str (numS a) ++ str [47] = _; rw [str_append]; rfl
  have j2 : str (f1 a) ++ str (numS b) = str (f2 a b) := by rw [str_append]; rfl
  have j3 : str (f2 a b) ++ { data := #[32] } = str (f3 a b) := by show str (f2 a b) ++ str [32] = _; rw [str_append]; rfl
  have j4 : str (f3 a b) ++ { data := #[109, 105, 115, 115, 105, 110, 103] } = str (f4 a b 1) := by show str (f3 a b) ++ str (ftK 1) = _; rw [str_append]; rfl
  have j5 : str (f4 a b 1) ++ { data := #[32, 97, 116, 32] } = str (f5 a b 1) := by show str (f4 a b 1) ++ str [32, 97, 116, 32] = _; rw [str_append]; rfl
  have j6 : str (f5 a b 1) ++ str (numS d) = str (f6 a b 1 d) := by rw [str_append]; rfl
  have z1 : (str (numS a)).size + 1 ≤ 9223372036854775807 := by rw [str_size]; omega
  have z2 : (str (f1 a)).size + (str (numS b)).size ≤ 9223372036854775807 := by rw [str_size, str_size]; omega
  have z3 : (str (f2 a b)).size + 1 ≤ 9223372036854775807 := by rw [str_size]; omega
  have z4 : (str (f3 a b)).size + 7 ≤ 9223372036854775807 := by rw [str_size]; omega
  have z5 : (str (f4 a b 1)).size + 4 ≤ 9223372036854775807 := by rw [str_size]; omega
  have z6 : (str (f5 a b 1)).size + (str (numS d)).size ≤ 9223372036854775807 := by rw [str_size, str_size]; omega
  have n1 : ¬ (9223372036854775807 < (str (numS a)).size + 1) := by omega
  have n2 : ¬ (9223372036854775807 < (str (f1 a)).size + (str (numS b)).size) := by omega
  have n3 : ¬ (9223372036854775807 < (str (f2 a b)).size + 1) := by omega
  have n4 : ¬ (9223372036854775807 < (str (f3 a b)).size + 7) := by omega
  have n5 : ¬ (9223372036854775807 < (str (f4 a b 1)).size + 4) := by omega
  have n6 : ¬ (9223372036854775807 < (str (f5 a b 1)).size + (str (numS d)).size) := by omega
  clear z1 z2 z3 z4 z5 z6 e1 e2 e3 e4 e5 lk
  have hr := hr.std
  have hc := hr (by simp)
  obtain ⟨b0, off, rfl, _, hlt0, hc⟩ := hc
  have x0 := hc 0 (by simp)
  have x1 := hc 1 (by simp)
  have x2 := hc 2 (by simp)
  have x3 := hc 3 (by simp)
  simp at x0 x1 x2 x3
  clear hc
  go_enter Tryd.func17, Tryd.ntmps17
  go_wp2_with fail
  (with_reducible refine (within_u a 1 999 _ _ q1).mono ?_)
  rintro e w1 ⟨rfl, rfl⟩
  go_wp2_with fail
  (with_reducible refine (within_u b 0 8 _ _ q2).mono ?_)
  rintro e w2 ⟨rfl, rfl⟩
  go_wp2_with fail
  (with_reducible refine (within_u 1 1 5 _ _ rfl).mono ?_)
  rintro e w3 ⟨rfl, rfl⟩
  go_wp2_with fail
  (with_reducible refine (within_u d 0 7 _ _ q4).mono ?_)
  rintro e w4 ⟨rfl, rfl⟩
  have hrW : Rd (w.alloc (.cells #[.string { data := #[109, 105, 115, 115, 105, 110, 103] }, .string { data := #[109, 105, 115, 114, 101, 97, 100] }, .string { data := #[101, 97, 114, 108, 121] }, .string { data := #[117, 110, 107, 110, 111, 119, 110] }, .string { data := #[99, 104, 97, 110, 103, 101, 100] }] 64)) 0 w.heap.size (some ⟨b0, off, none⟩) [a, b, 1, d] := hr.alloc _
  have hPW : Pow (w.alloc (.cells #[.string { data := #[109, 105, 115, 115, 105, 110, 103] }, .string { data := #[109, 105, 115, 114, 101, 97, 100] }, .string { data := #[101, 97, 114, 108, 121] }, .string { data := #[117, 110, 107, 110, 111, 119, 110] }, .string { data := #[99, 104, 97, 110, 103, 101, 100] }] 64)) := hP.alloc _
  obtain ⟨W, hW⟩ : ∃ W, W = w.alloc (.cells #[.string { data := #[109, 105, 115, 115, 105, 110, 103] }, .string { data := #[109, 105, 115, 114, 101, 97, 100] }, .string { data := #[101, 97, 114, 108, 121] }, .string { data := #[117, 110, 107, 110, 111, 119, 110] }, .string { data := #[99, 104, 97, 110, 103, 101, 100] }] 64) := ⟨_, rfl⟩
  rw [← hW] at hrW hPW
  have sW : W.heap.size = w.heap.size + 1 := by rw [hW]; simp
  have hBW : Below w.heap.size w W := by rw [hW]; exact (Below.refl _ _).alloc (Nat.le_refl _) _
  have y2 : W.cell? ⟨b0, off + 2, none⟩ = some (.int .i64 1) := by rw [hW, World.cell?_alloc_lt w _ _ hlt0]; exact x2
  have c2 : (2 : Int) ≤ cc := by omega
  have c4 : (4 : Int) ≤ cc := by omega
  have c3 : (3 : Int) ≤ cc := by omega
  have yk : W.cell? ⟨w.heap.size, 0, none⟩ = some (.string { data := #[109, 105, 115, 115, 105, 110, 103] }) := by rw [hW]; exact (Bk.new w 64 _).cell 0
  go_wp2_with fail
  rw [← hW]
  clear hW x0 x1 x2 x3
  have hwr : IntKind.i64.wrap 0 = 0 := by decide
  go_region_held3 (fun w' => w'.cell? ⟨b0, off + 2, none⟩ = some (.int .i64 1) ∧ w'.cell? ⟨w.heap.size, 0, none⟩ = some (.string { data := #[109, 105, 115, 115, 105, 110, 103] }))
    (first | ((try go_split_ands); (try dsimp only); (repeat' apply And.intro) <;> (first | with_reducible assumption | ((with_reducible refine (hc5 _ _ ?_).trans ?_) <;> first | with_reducible assumption | omega | exact y2 | exact yk | (simp <;> omega)) | ((with_reducible refine (hc4 _ _ ?_).trans ?_) <;> first | with_reducible assumption | omega | exact y2 | exact yk | (simp <;> omega)) | go_keep)))
    (first
      | (go_at_call 40; ((with_reducible refine (jn_two a b _ _ _ (rd_two hrW.drew) (by omega) (by omega) hPW.drew).mono ?_); rintro e w4 ⟨rfl, hb4⟩; (have hc4 := (bcell hb4).1); (have s4 : W.heap.size ≤ w4.heap.size := hb4.size); (have hP4 := hPW.drew.st hb4); (have hr4 := hrW.drew.st hb4)))
      | (go_at_call 40; ((with_reducible refine (jn_last d _ _ _ (rd_last hr4) (by omega) hP4).mono ?_); rintro e w5 ⟨rfl, hb5⟩; (have hc5 := (bcell hb5).1); (have s5 : w4.heap.size ≤ w5.heap.size := hb5.size))))
  have hB : Below w.heap.size w w5 := ((hBW.drew).trans (hb4.mono (by show w.heap.size ≤ W.heap.size; omega))).trans (hb5.mono (by omega))
  clear hb4 hb5 hc4 hc5
  go_wp2_with fail
  go_ret2
  exact ⟨rfl, hB⟩

set_option maxRecDepth 100000 in
set_option maxHeartbeats 4000000 in
theorem iFault2 (a b d : Int) (A : Option Addr) (cc : Nat) {l h : Nat} (w : World) (hr : Rd w l h A [a, b, 2, d]) (q1 : inB a 1 999 = true) (q2 : inB b 0 8 = true) (q4 : inB d 0 7 = true) (hcap : 4 ≤ cc) (hP : Pow w) :
    Calls Tryd.prog 17 #[.slice A 4 cc] w fun e w' => e = .returned (.tuple #[.string (str (f6 a b 2 d)), .bool true]) ∧ Below w.heap.size w w' := by
  obtain ⟨ha0, ha1⟩ : 1 ≤ a ∧ a ≤ 999 := by simpa [inB] using q1
  obtain ⟨hb0, hb1⟩ : 0 ≤ b ∧ b ≤ 8 := by simpa [inB] using q2
  obtain ⟨hd0, hd1⟩ : 0 ≤ d ∧ d ≤ 7 := by simpa [inB] using q4
  have la := numS_len (n := a) (by omega) (by omega)
  have lb := numS_len (n := b) (by omega) (by omega)
  have ld := numS_len (n := d) (by omega) (by omega)
  have lk := ftK_len 2
  have e1 : (f1 a).length = (numS a).length + 1 := by simp [f1]
  have e2 : (f2 a b).length = (f1 a).length + (numS b).length := by simp [f2]
  have e3 : (f3 a b).length = (f2 a b).length + 1 := by simp [f3]
  have e4 : (f4 a b 2).length = (f3 a b).length + (ftK 2).length := by simp [f4]
  have e5 : (f5 a b 2).length = (f4 a b 2).length + 4 := by simp [f5]
  have j1 : str (numS a) ++ { data := #[47] } = str (f1 a) := by show str (numS a) ++ str [47] = _; rw [str_append]; rfl
  have j2 : str (f1 a) ++ str (numS b) = str (f2 a b) := by rw [str_append]; rfl
  have j3 : str (f2 a b) ++ { data := #[32] } = str (f3 a b) := by show str (f2 a b) ++ str [32] = _; rw [str_append]; rfl
  have j4 : str (f3 a b) ++ { data := #[109, 105, 115, 114, 101, 97, 100] } = str (f4 a b 2) := by show str (f3 a b) ++ str (ftK 2) = _; rw [str_append]; rfl
  have j5 : str (f4 a b 2) ++ { data := #[32, 97, 116, 32] } = str (f5 a b 2) := by show str (f4 a b 2) ++ str [32, 97, 116, 32] = _; rw [str_append]; rfl
  have j6 : str (f5 a b 2) ++ str (numS d) = str (f6 a b 2 d) := by rw [str_append]; rfl
  have z1 : (str (numS a)).size + 1 ≤ 9223372036854775807 := by rw [str_size]; omega
  have z2 : (str (f1 a)).size + (str (numS b)).size ≤ 9223372036854775807 := by rw [str_size, str_size]; omega
  have z3 : (str (f2 a b)).size + 1 ≤ 9223372036854775807 := by rw [str_size]; omega
  have z4 : (str (f3 a b)).size + 7 ≤ 9223372036854775807 := by rw [str_size]; omega
  have z5 : (str (f4 a b 2)).size + 4 ≤ 9223372036854775807 := by rw [str_size]; omega
  have z6 : (str (f5 a b 2)).size + (str (numS d)).size ≤ 9223372036854775807 := by rw [str_size, str_size]; omega
  have n1 : ¬ (9223372036854775807 < (str (numS a)).size + 1) := by omega
  have n2 : ¬ (9223372036854775807 < (str (f1 a)).size + (str (numS b)).size) := by omega
  have n3 : ¬ (9223372036854775807 < (str (f2 a b)).size + 1) := by omega
  have n4 : ¬ (9223372036854775807 < (str (f3 a b)).size + 7) := by omega
  have n5 : ¬ (9223372036854775807 < (str (f4 a b 2)).size + 4) := by omega
  have n6 : ¬ (9223372036854775807 < (str (f5 a b 2)).size + (str (numS d)).size) := by omega
  clear z1 z2 z3 z4 z5 z6 e1 e2 e3 e4 e5 lk
  have hr := hr.std
  have hc := hr (by simp)
  obtain ⟨b0, off, rfl, _, hlt0, hc⟩ := hc
  have x0 := hc 0 (by simp)
  have x1 := hc 1 (by simp)
  have x2 := hc 2 (by simp)
  have x3 := hc 3 (by simp)
  simp at x0 x1 x2 x3
  clear hc
  go_enter Tryd.func17, Tryd.ntmps17
  go_wp2_with fail
  (with_reducible refine (within_u a 1 999 _ _ q1).mono ?_)
  rintro e w1 ⟨rfl, rfl⟩
  go_wp2_with fail
  (with_reducible refine (within_u b 0 8 _ _ q2).mono ?_)
  rintro e w2 ⟨rfl, rfl⟩
  go_wp2_with fail
  (with_reducible refine (within_u 2 1 5 _ _ rfl).mono ?_)
  rintro e w3 ⟨rfl, rfl⟩
  go_wp2_with fail
  (with_reducible refine (within_u d 0 7 _ _ q4).mono ?_)
  rintro e w4 ⟨rfl, rfl⟩
  have hrW : Rd (w.alloc (.cells #[.string { data := #[109, 105, 115, 115, 105, 110, 103] }, .string { data := #[109, 105, 115, 114, 101, 97, 100] }, .string { data := #[101, 97, 114, 108, 121] }, .string { data := #[117, 110, 107, 110, 111, 119, 110] }, .string { data := #[99, 104, 97, 110, 103, 101, 100] }] 64)) 0 w.heap.size (some ⟨b0, off, none⟩) [a, b, 2, d] := hr.alloc _
  have hPW : Pow (w.alloc (.cells #[.string { data := #[109, 105, 115, 115, 105, 110, 103] }, .string { data := #[109, 105, 115, 114, 101, 97, 100] }, .string { data := #[101, 97, 114, 108, 121] }, .string { data := #[117, 110, 107, 110, 111, 119, 110] }, .string { data := #[99, 104, 97, 110, 103, 101, 100] }] 64)) := hP.alloc _
  obtain ⟨W, hW⟩ : ∃ W, W = w.alloc (.cells #[.string { data := #[109, 105, 115, 115, 105, 110, 103] }, .string { data := #[109, 105, 115, 114, 101, 97, 100] }, .string { data := #[101, 97, 114, 108, 121] }, .string { data := #[117, 110, 107, 110, 111, 119, 110] }, .string { data := #[99, 104, 97, 110, 103, 101, 100] }] 64) := ⟨_, rfl⟩
  rw [← hW] at hrW hPW
  have sW : W.heap.size = w.heap.size + 1 := by rw [hW]; simp
  have hBW : Below w.heap.size w W := by rw [hW]; exact (Below.refl _ _).alloc (Nat.le_refl _) _
  have y2 : W.cell? ⟨b0, off + 2, none⟩ = some (.int .i64 2) := by rw [hW, World.cell?_alloc_lt w _ _ hlt0]; exact x2
  have c2 : (2 : Int) ≤ cc := by omega
  have c4 : (4 : Int) ≤ cc := by omega
  have c3 : (3 : Int) ≤ cc := by omega
  have yk : W.cell? ⟨w.heap.size, 1, none⟩ = some (.string { data := #[109, 105, 115, 114, 101, 97, 100] }) := by rw [hW]; exact (Bk.new w 64 _).cell 1
  go_wp2_with fail
  rw [← hW]
  clear hW x0 x1 x2 x3
  have hwr : IntKind.i64.wrap 1 = 1 := by decide
  go_region_held3 (fun w' => w'.cell? ⟨b0, off + 2, none⟩ = some (.int .i64 2) ∧ w'.cell? ⟨w.heap.size, 1, none⟩ = some (.string { data := #[109, 105, 115, 114, 101, 97, 100] }))
    (first | ((try go_split_ands); (try dsimp only); (repeat' apply And.intro) <;> (first | with_reducible assumption | ((with_reducible refine (hc5 _ _ ?_).trans ?_) <;> first | with_reducible assumption | omega | exact y2 | exact yk | (simp <;> omega)) | ((with_reducible refine (hc4 _ _ ?_).trans ?_) <;> first | with_reducible assumption | omega | exact y2 | exact yk | (simp <;> omega)) | go_keep)))
    (first
      | (go_at_call 40; ((with_reducible refine (jn_two a b _ _ _ (rd_two hrW.drew) (by omega) (by omega) hPW.drew).mono ?_); rintro e w4 ⟨rfl, hb4⟩; (have hc4 := (bcell hb4).1); (have s4 : W.heap.size ≤ w4.heap.size := hb4.size); (have hP4 := hPW.drew.st hb4); (have hr4 := hrW.drew.st hb4)))
      | (go_at_call 40; ((with_reducible refine (jn_last d _ _ _ (rd_last hr4) (by omega) hP4).mono ?_); rintro e w5 ⟨rfl, hb5⟩; (have hc5 := (bcell hb5).1); (have s5 : w4.heap.size ≤ w5.heap.size := hb5.size))))
  have hB : Below w.heap.size w w5 := ((hBW.drew).trans (hb4.mono (by show w.heap.size ≤ W.heap.size; omega))).trans (hb5.mono (by omega))
  clear hb4 hb5 hc4 hc5
  go_wp2_with fail
  go_ret2
  exact ⟨rfl, hB⟩

set_option maxRecDepth 100000 in
set_option maxHeartbeats 4000000 in
theorem iFault3 (a b d : Int) (A : Option Addr) (cc : Nat) {l h : Nat} (w : World) (hr : Rd w l h A [a, b, 3, d]) (q1 : inB a 1 999 = true) (q2 : inB b 0 8 = true) (q4 : inB d 0 7 = true) (hcap : 4 ≤ cc) (hP : Pow w) :
    Calls Tryd.prog 17 #[.slice A 4 cc] w fun e w' => e = .returned (.tuple #[.string (str (f6 a b 3 d)), .bool true]) ∧ Below w.heap.size w w' := by
  obtain ⟨ha0, ha1⟩ : 1 ≤ a ∧ a ≤ 999 := by simpa [inB] using q1
  obtain ⟨hb0, hb1⟩ : 0 ≤ b ∧ b ≤ 8 := by simpa [inB] using q2
  obtain ⟨hd0, hd1⟩ : 0 ≤ d ∧ d ≤ 7 := by simpa [inB] using q4
  have la := numS_len (n := a) (by omega) (by omega)
  have lb := numS_len (n := b) (by omega) (by omega)
  have ld := numS_len (n := d) (by omega) (by omega)
  have lk := ftK_len 3
  have e1 : (f1 a).length = (numS a).length + 1 := by simp [f1]
  have e2 : (f2 a b).length = (f1 a).length + (numS b).length := by simp [f2]
  have e3 : (f3 a b).length = (f2 a b).length + 1 := by simp [f3]
  have e4 : (f4 a b 3).length = (f3 a b).length + (ftK 3).length := by simp [f4]
  have e5 : (f5 a b 3).length = (f4 a b 3).length + 4 := by simp [f5]
  have j1 : str (numS a) ++ { data := #[47] } = str (f1 a) := by show str (numS a) ++ str [47] = _; rw [str_append]; rfl
  have j2 : str (f1 a) ++ str (numS b) = str (f2 a b) := by rw [str_append]; rfl
  have j3 : str (f2 a b) ++ { data := #[32] } = str (f3 a b) := by show str (f2 a b) ++ str [32] = _; rw [str_append]; rfl
  have j4 : str (f3 a b) ++ { data := #[101, 97, 114, 108, 121] } = str (f4 a b 3) := by show str (f3 a b) ++ str (ftK 3) = _; rw [str_append]; rfl
  have j5 : str (f4 a b 3) ++ { data := #[32, 97, 116, 32] } = str (f5 a b 3) := by show str (f4 a b 3) ++ str [32, 97, 116, 32] = _; rw [str_append]; rfl
  have j6 : str (f5 a b 3) ++ str (numS d) = str (f6 a b 3 d) := by rw [str_append]; rfl
  have z1 : (str (numS a)).size + 1 ≤ 9223372036854775807 := by rw [str_size]; omega
  have z2 : (str (f1 a)).size + (str (numS b)).size ≤ 9223372036854775807 := by rw [str_size, str_size]; omega
  have z3 : (str (f2 a b)).size + 1 ≤ 9223372036854775807 := by rw [str_size]; omega
  have z4 : (str (f3 a b)).size + 5 ≤ 9223372036854775807 := by rw [str_size]; omega
  have z5 : (str (f4 a b 3)).size + 4 ≤ 9223372036854775807 := by rw [str_size]; omega
  have z6 : (str (f5 a b 3)).size + (str (numS d)).size ≤ 9223372036854775807 := by rw [str_size, str_size]; omega
  have n1 : ¬ (9223372036854775807 < (str (numS a)).size + 1) := by omega
  have n2 : ¬ (9223372036854775807 < (str (f1 a)).size + (str (numS b)).size) := by omega
  have n3 : ¬ (9223372036854775807 < (str (f2 a b)).size + 1) := by omega
  have n4 : ¬ (9223372036854775807 < (str (f3 a b)).size + 5) := by omega
  have n5 : ¬ (9223372036854775807 < (str (f4 a b 3)).size + 4) := by omega
  have n6 : ¬ (9223372036854775807 < (str (f5 a b 3)).size + (str (numS d)).size) := by omega
  clear z1 z2 z3 z4 z5 z6 e1 e2 e3 e4 e5 lk
  have hr := hr.std
  have hc := hr (by simp)
  obtain ⟨b0, off, rfl, _, hlt0, hc⟩ := hc
  have x0 := hc 0 (by simp)
  have x1 := hc 1 (by simp)
  have x2 := hc 2 (by simp)
  have x3 := hc 3 (by simp)
  simp at x0 x1 x2 x3
  clear hc
  go_enter Tryd.func17, Tryd.ntmps17
  go_wp2_with fail
  (with_reducible refine (within_u a 1 999 _ _ q1).mono ?_)
  rintro e w1 ⟨rfl, rfl⟩
  go_wp2_with fail
  (with_reducible refine (within_u b 0 8 _ _ q2).mono ?_)
  rintro e w2 ⟨rfl, rfl⟩
  go_wp2_with fail
  (with_reducible refine (within_u 3 1 5 _ _ rfl).mono ?_)
  rintro e w3 ⟨rfl, rfl⟩
  go_wp2_with fail
  (with_reducible refine (within_u d 0 7 _ _ q4).mono ?_)
  rintro e w4 ⟨rfl, rfl⟩
  have hrW : Rd (w.alloc (.cells #[.string { data := #[109, 105, 115, 115, 105, 110, 103] }, .string { data := #[109, 105, 115, 114, 101, 97, 100] }, .string { data := #[101, 97, 114, 108, 121] }, .string { data := #[117, 110, 107, 110, 111, 119, 110] }, .string { data := #[99, 104, 97, 110, 103, 101, 100] }] 64)) 0 w.heap.size (some ⟨b0, off, none⟩) [a, b, 3, d] := hr.alloc _
  have hPW : Pow (w.alloc (.cells #[.string { data := #[109, 105, 115, 115, 105, 110, 103] }, .string { data := #[109, 105, 115, 114, 101, 97, 100] }, .string { data := #[101, 97, 114, 108, 121] }, .string { data := #[117, 110, 107, 110, 111, 119, 110] }, .string { data := #[99, 104, 97, 110, 103, 101, 100] }] 64)) := hP.alloc _
  obtain ⟨W, hW⟩ : ∃ W, W = w.alloc (.cells #[.string { data := #[109, 105, 115, 115, 105, 110, 103] }, .string { data := #[109, 105, 115, 114, 101, 97, 100] }, .string { data := #[101, 97, 114, 108, 121] }, .string { data := #[117, 110, 107, 110, 111, 119, 110] }, .string { data := #[99, 104, 97, 110, 103, 101, 100] }] 64) := ⟨_, rfl⟩
  rw [← hW] at hrW hPW
  have sW : W.heap.size = w.heap.size + 1 := by rw [hW]; simp
  have hBW : Below w.heap.size w W := by rw [hW]; exact (Below.refl _ _).alloc (Nat.le_refl _) _
  have y2 : W.cell? ⟨b0, off + 2, none⟩ = some (.int .i64 3) := by rw [hW, World.cell?_alloc_lt w _ _ hlt0]; exact x2
  have c2 : (2 : Int) ≤ cc := by omega
  have c4 : (4 : Int) ≤ cc := by omega
  have c3 : (3 : Int) ≤ cc := by omega
  have yk : W.cell? ⟨w.heap.size, 2, none⟩ = some (.string { data := #[101, 97, 114, 108, 121] }) := by rw [hW]; exact (Bk.new w 64 _).cell 2
  go_wp2_with fail
  rw [← hW]
  clear hW x0 x1 x2 x3
  have hwr : IntKind.i64.wrap 2 = 2 := by decide
  go_region_held3 (fun w' => w'.cell? ⟨b0, off + 2, none⟩ = some (.int .i64 3) ∧ w'.cell? ⟨w.heap.size, 2, none⟩ = some (.string { data := #[101, 97, 114, 108, 121] }))
    (first | ((try go_split_ands); (try dsimp only); (repeat' apply And.intro) <;> (first | with_reducible assumption | ((with_reducible refine (hc5 _ _ ?_).trans ?_) <;> first | with_reducible assumption | omega | exact y2 | exact yk | (simp <;> omega)) | ((with_reducible refine (hc4 _ _ ?_).trans ?_) <;> first | with_reducible assumption | omega | exact y2 | exact yk | (simp <;> omega)) | go_keep)))
    (first
      | (go_at_call 40; ((with_reducible refine (jn_two a b _ _ _ (rd_two hrW.drew) (by omega) (by omega) hPW.drew).mono ?_); rintro e w4 ⟨rfl, hb4⟩; (have hc4 := (bcell hb4).1); (have s4 : W.heap.size ≤ w4.heap.size := hb4.size); (have hP4 := hPW.drew.st hb4); (have hr4 := hrW.drew.st hb4)))
      | (go_at_call 40; ((with_reducible refine (jn_last d _ _ _ (rd_last hr4) (by omega) hP4).mono ?_); rintro e w5 ⟨rfl, hb5⟩; (have hc5 := (bcell hb5).1); (have s5 : w4.heap.size ≤ w5.heap.size := hb5.size))))
  have hB : Below w.heap.size w w5 := ((hBW.drew).trans (hb4.mono (by show w.heap.size ≤ W.heap.size; omega))).trans (hb5.mono (by omega))
  clear hb4 hb5 hc4 hc5
  go_wp2_with fail
  go_ret2
  exact ⟨rfl, hB⟩

set_option maxRecDepth 100000 in
set_option maxHeartbeats 4000000 in
theorem iFault4 (a b d : Int) (A : Option Addr) (cc : Nat) {l h : Nat} (w : World) (hr : Rd w l h A [a, b, 4, d]) (q1 : inB a 1 999 = true) (q2 : inB b 0 8 = true) (q4 : inB d 0 7 = true) (hcap : 4 ≤ cc) (hP : Pow w) :
    Calls Tryd.prog 17 #[.slice A 4 cc] w fun e w' => e = .returned (.tuple #[.string (str (f6 a b 4 d)), .bool true]) ∧ Below w.heap.size w w' := by
  obtain ⟨ha0, ha1⟩ : 1 ≤ a ∧ a ≤ 999 := by simpa [inB] using q1
  obtain ⟨hb0, hb1⟩ : 0 ≤ b ∧ b ≤ 8 := by simpa [inB] using q2
  obtain ⟨hd0, hd1⟩ : 0 ≤ d ∧ d ≤ 7 := by simpa [inB] using q4
  have la := numS_len (n := a) (by omega) (by omega)
  have lb := numS_len (n := b) (by omega) (by omega)
  have ld := numS_len (n := d) (by omega) (by omega)
  have lk := ftK_len 4
  have e1 : (f1 a).length = (numS a).length + 1 := by simp [f1]
  have e2 : (f2 a b).length = (f1 a).length + (numS b).length := by simp [f2]
  have e3 : (f3 a b).length = (f2 a b).length + 1 := by simp [f3]
  have e4 : (f4 a b 4).length = (f3 a b).length + (ftK 4).length := by simp [f4]
  have e5 : (f5 a b 4).length = (f4 a b 4).length + 4 := by simp [f5]
  have j1 : str (numS a) ++ { data := #[47] } = str (f1 a) := by show str (numS a) ++ str [47] = _; rw [str_append]; rfl
  have j2 : str (f1 a) ++ str (numS b) = str (f2 a b) := by rw [str_append]; rfl
  have j3 : str (f2 a b) ++ { data := #[32] } = str (f3 a b) := by show str (f2 a b) ++ str [32] = _; rw [str_append]; rfl
  have j4 : str (f3 a b) ++ { data := #[117, 110, 107, 110, 111, 119, 110] } = str (f4 a b 4) := by show str (f3 a b) ++ str (ftK 4) = _; rw [str_append]; rfl
  have j5 : str (f4 a b 4) ++ { data := #[32, 97, 116, 32] } = str (f5 a b 4) := by show str (f4 a b 4) ++ str [32, 97, 116, 32] = _; rw [str_append]; rfl
  have j6 : str (f5 a b 4) ++ str (numS d) = str (f6 a b 4 d) := by rw [str_append]; rfl
  have z1 : (str (numS a)).size + 1 ≤ 9223372036854775807 := by rw [str_size]; omega
  have z2 : (str (f1 a)).size + (str (numS b)).size ≤ 9223372036854775807 := by rw [str_size, str_size]; omega
  have z3 : (str (f2 a b)).size + 1 ≤ 9223372036854775807 := by rw [str_size]; omega
  have z4 : (str (f3 a b)).size + 7 ≤ 9223372036854775807 := by rw [str_size]; omega
  have z5 : (str (f4 a b 4)).size + 4 ≤ 9223372036854775807 := by rw [str_size]; omega
  have z6 : (str (f5 a b 4)).size + (str (numS d)).size ≤ 9223372036854775807 := by rw [str_size, str_size]; omega
  have n1 : ¬ (9223372036854775807 < (str (numS a)).size + 1) := by omega
  have n2 : ¬ (9223372036854775807 < (str (f1 a)).size + (str (numS b)).size) := by omega
  have n3 : ¬ (9223372036854775807 < (str (f2 a b)).size + 1) := by omega
  have n4 : ¬ (9223372036854775807 < (str (f3 a b)).size + 7) := by omega
  have n5 : ¬ (9223372036854775807 < (str (f4 a b 4)).size + 4) := by omega
  have n6 : ¬ (9223372036854775807 < (str (f5 a b 4)).size + (str (numS d)).size) := by omega
  clear z1 z2 z3 z4 z5 z6 e1 e2 e3 e4 e5 lk
  have hr := hr.std
  have hc := hr (by simp)
  obtain ⟨b0, off, rfl, _, hlt0, hc⟩ := hc
  have x0 := hc 0 (by simp)
  have x1 := hc 1 (by simp)
  have x2 := hc 2 (by simp)
  have x3 := hc 3 (by simp)
  simp at x0 x1 x2 x3
  clear hc
  go_enter Tryd.func17, Tryd.ntmps17
  go_wp2_with fail
  (with_reducible refine (within_u a 1 999 _ _ q1).mono ?_)
  rintro e w1 ⟨rfl, rfl⟩
  go_wp2_with fail
  (with_reducible refine (within_u b 0 8 _ _ q2).mono ?_)
  rintro e w2 ⟨rfl, rfl⟩
  go_wp2_with fail
  (with_reducible refine (within_u 4 1 5 _ _ rfl).mono ?_)
  rintro e w3 ⟨rfl, rfl⟩
  go_wp2_with fail
  (with_reducible refine (within_u d 0 7 _ _ q4).mono ?_)
  rintro e w4 ⟨rfl, rfl⟩
  have hrW : Rd (w.alloc (.cells #[.string { data := #[109, 105, 115, 115, 105, 110, 103] }, .string { data := #[109, 105, 115, 114, 101, 97, 100] }, .string { data := #[101, 97, 114, 108, 121] }, .string { data := #[117, 110, 107, 110, 111, 119, 110] }, .string { data := #[99, 104, 97, 110, 103, 101, 100] }] 64)) 0 w.heap.size (some ⟨b0, off, none⟩) [a, b, 4, d] := hr.alloc _
  have hPW : Pow (w.alloc (.cells #[.string { data := #[109, 105, 115, 115, 105, 110, 103] }, .string { data := #[109, 105, 115, 114, 101, 97, 100] }, .string { data := #[101, 97, 114, 108, 121] }, .string { data := #[117, 110, 107, 110, 111, 119, 110] }, .string { data := #[99, 104, 97, 110, 103, 101, 100] }] 64)) := hP.alloc _
  obtain ⟨W, hW⟩ : ∃ W, W = w.alloc (.cells #[.string { data := #[109, 105, 115, 115, 105, 110, 103] }, .string { data := #[109, 105, 115, 114, 101, 97, 100] }, .string { data := #[101, 97, 114, 108, 121] }, .string { data := #[117, 110, 107, 110, 111, 119, 110] }, .string { data := #[99, 104, 97, 110, 103, 101, 100] }] 64) := ⟨_, rfl⟩
  rw [← hW] at hrW hPW
  have sW : W.heap.size = w.heap.size + 1 := by rw [hW]; simp
  have hBW : Below w.heap.size w W := by rw [hW]; exact (Below.refl _ _).alloc (Nat.le_refl _) _
  have y2 : W.cell? ⟨b0, off + 2, none⟩ = some (.int .i64 4) := by rw [hW, World.cell?_alloc_lt w _ _ hlt0]; exact x2
  have c2 : (2 : Int) ≤ cc := by omega
  have c4 : (4 : Int) ≤ cc := by omega
  have c3 : (3 : Int) ≤ cc := by omega
  have yk : W.cell? ⟨w.heap.size, 3, none⟩ = some (.string { data := #[117, 110, 107, 110, 111, 119, 110] }) := by rw [hW]; exact (Bk.new w 64 _).cell 3
  go_wp2_with fail
  rw [← hW]
  clear hW x0 x1 x2 x3
  have hwr : IntKind.i64.wrap 3 = 3 := by decide
  go_region_held3 (fun w' => w'.cell? ⟨b0, off + 2, none⟩ = some (.int .i64 4) ∧ w'.cell? ⟨w.heap.size, 3, none⟩ = some (.string { data := #[117, 110, 107, 110, 111, 119, 110] }))
    (first | ((try go_split_ands); (try dsimp only); (repeat' apply And.intro) <;> (first | with_reducible assumption | ((with_reducible refine (hc5 _ _ ?_).trans ?_) <;> first | with_reducible assumption | omega | exact y2 | exact yk | (simp <;> omega)) | ((with_reducible refine (hc4 _ _ ?_).trans ?_) <;> first | with_reducible assumption | omega | exact y2 | exact yk | (simp <;> omega)) | go_keep)))
    (first
      | (go_at_call 40; ((with_reducible refine (jn_two a b _ _ _ (rd_two hrW.drew) (by omega) (by omega) hPW.drew).mono ?_); rintro e w4 ⟨rfl, hb4⟩; (have hc4 := (bcell hb4).1); (have s4 : W.heap.size ≤ w4.heap.size := hb4.size); (have hP4 := hPW.drew.st hb4); (have hr4 := hrW.drew.st hb4)))
      | (go_at_call 40; ((with_reducible refine (jn_last d _ _ _ (rd_last hr4) (by omega) hP4).mono ?_); rintro e w5 ⟨rfl, hb5⟩; (have hc5 := (bcell hb5).1); (have s5 : w4.heap.size ≤ w5.heap.size := hb5.size))))
  have hB : Below w.heap.size w w5 := ((hBW.drew).trans (hb4.mono (by show w.heap.size ≤ W.heap.size; omega))).trans (hb5.mono (by omega))
  clear hb4 hb5 hc4 hc5
  go_wp2_with fail
  go_ret2
  exact ⟨rfl, hB⟩

set_option maxRecDepth 100000 in
set_option maxHeartbeats 4000000 in
theorem iFault5 (a b d : Int) (A : Option Addr) (cc : Nat) {l h : Nat} (w : World) (hr : Rd w l h A [a, b, 5, d]) (q1 : inB a 1 999 = true) (q2 : inB b 0 8 = true) (q4 : inB d 0 7 = true) (hcap : 4 ≤ cc) (hP : Pow w) :
    Calls Tryd.prog 17 #[.slice A 4 cc] w fun e w' => e = .returned (.tuple #[.string (str (f6 a b 5 d)), .bool true]) ∧ Below w.heap.size w w' := by
  obtain ⟨ha0, ha1⟩ : 1 ≤ a ∧ a ≤ 999 := by simpa [inB] using q1
  obtain ⟨hb0, hb1⟩ : 0 ≤ b ∧ b ≤ 8 := by simpa [inB] using q2
  obtain ⟨hd0, hd1⟩ : 0 ≤ d ∧ d ≤ 7 := by simpa [inB] using q4
  have la := numS_len (n := a) (by omega) (by omega)
  have lb := numS_len (n := b) (by omega) (by omega)
  have ld := numS_len (n := d) (by omega) (by omega)
  have lk := ftK_len 5
  have e1 : (f1 a).length = (numS a).length + 1 := by simp [f1]
  have e2 : (f2 a b).length = (f1 a).length + (numS b).length := by simp [f2]
  have e3 : (f3 a b).length = (f2 a b).length + 1 := by simp [f3]
  have e4 : (f4 a b 5).length = (f3 a b).length + (ftK 5).length := by simp [f4]
  have e5 : (f5 a b 5).length = (f4 a b 5).length + 4 := by simp [f5]
  have j1 : str (numS a) ++ { data := #[47] } = str (f1 a) := by show str (numS a) ++ str [47] = _; rw [str_append]; rfl
  have j2 : str (f1 a) ++ str (numS b) = str (f2 a b) := by rw [str_append]; rfl
  have j3 : str (f2 a b) ++ { data := #[32] } = str (f3 a b) := by show str (f2 a b) ++ str [32] = _; rw [str_append]; rfl
  have j4 : str (f3 a b) ++ { data := #[99, 104, 97, 110, 103, 101, 100] } = str (f4 a b 5) := by show str (f3 a b) ++ str (ftK 5) = _; rw [str_append]; rfl
  have j5 : str (f4 a b 5) ++ { data := #[32, 97, 116, 32] } = str (f5 a b 5) := by show str (f4 a b 5) ++ str [32, 97, 116, 32] = _; rw [str_append]; rfl
  have j6 : str (f5 a b 5) ++ str (numS d) = str (f6 a b 5 d) := by rw [str_append]; rfl
  have z1 : (str (numS a)).size + 1 ≤ 9223372036854775807 := by rw [str_size]; omega
  have z2 : (str (f1 a)).size + (str (numS b)).size ≤ 9223372036854775807 := by rw [str_size, str_size]; omega
  have z3 : (str (f2 a b)).size + 1 ≤ 9223372036854775807 := by rw [str_size]; omega
  have z4 : (str (f3 a b)).size + 7 ≤ 9223372036854775807 := by rw [str_size]; omega
  have z5 : (str (f4 a b 5)).size + 4 ≤ 9223372036854775807 := by rw [str_size]; omega
  have z6 : (str (f5 a b 5)).size + (str (numS d)).size ≤ 9223372036854775807 := by rw [str_size, str_size]; omega
  have n1 : ¬ (9223372036854775807 < (str (numS a)).size + 1) := by omega
  have n2 : ¬ (9223372036854775807 < (str (f1 a)).size + (str (numS b)).size) := by omega
  have n3 : ¬ (9223372036854775807 < (str (f2 a b)).size + 1) := by omega
  have n4 : ¬ (9223372036854775807 < (str (f3 a b)).size + 7) := by omega
  have n5 : ¬ (9223372036854775807 < (str (f4 a b 5)).size + 4) := by omega
  have n6 : ¬ (9223372036854775807 < (str (f5 a b 5)).size + (str (numS d)).size) := by omega
  clear z1 z2 z3 z4 z5 z6 e1 e2 e3 e4 e5 lk
  have hr := hr.std
  have hc := hr (by simp)
  obtain ⟨b0, off, rfl, _, hlt0, hc⟩ := hc
  have x0 := hc 0 (by simp)
  have x1 := hc 1 (by simp)
  have x2 := hc 2 (by simp)
  have x3 := hc 3 (by simp)
  simp at x0 x1 x2 x3
  clear hc
  go_enter Tryd.func17, Tryd.ntmps17
  go_wp2_with fail
  (with_reducible refine (within_u a 1 999 _ _ q1).mono ?_)
  rintro e w1 ⟨rfl, rfl⟩
  go_wp2_with fail
  (with_reducible refine (within_u b 0 8 _ _ q2).mono ?_)
  rintro e w2 ⟨rfl, rfl⟩
  go_wp2_with fail
  (with_reducible refine (within_u 5 1 5 _ _ rfl).mono ?_)
  rintro e w3 ⟨rfl, rfl⟩
  go_wp2_with fail
  (with_reducible refine (within_u d 0 7 _ _ q4).mono ?_)
  rintro e w4 ⟨rfl, rfl⟩
  have hrW : Rd (w.alloc (.cells #[.string { data := #[109, 105, 115, 115, 105, 110, 103] }, .string { data := #[109, 105, 115, 114, 101, 97, 100] }, .string { data := #[101, 97, 114, 108, 121] }, .string { data := #[117, 110, 107, 110, 111, 119, 110] }, .string { data := #[99, 104, 97, 110, 103, 101, 100] }] 64)) 0 w.heap.size (some ⟨b0, off, none⟩) [a, b, 5, d] := hr.alloc _
  have hPW : Pow (w.alloc (.cells #[.string { data := #[109, 105, 115, 115, 105, 110, 103] }, .string { data := #[109, 105, 115, 114, 101, 97, 100] }, .string { data := #[101, 97, 114, 108, 121] }, .string { data := #[117, 110, 107, 110, 111, 119, 110] }, .string { data := #[99, 104, 97, 110, 103, 101, 100] }] 64)) := hP.alloc _
  obtain ⟨W, hW⟩ : ∃ W, W = w.alloc (.cells #[.string { data := #[109, 105, 115, 115, 105, 110, 103] }, .string { data := #[109, 105, 115, 114, 101, 97, 100] }, .string { data := #[101, 97, 114, 108, 121] }, .string { data := #[117, 110, 107, 110, 111, 119, 110] }, .string { data := #[99, 104, 97, 110, 103, 101, 100] }] 64) := ⟨_, rfl⟩
  rw [← hW] at hrW hPW
  have sW : W.heap.size = w.heap.size + 1 := by rw [hW]; simp
  have hBW : Below w.heap.size w W := by rw [hW]; exact (Below.refl _ _).alloc (Nat.le_refl _) _
  have y2 : W.cell? ⟨b0, off + 2, none⟩ = some (.int .i64 5) := by rw [hW, World.cell?_alloc_lt w _ _ hlt0]; exact x2
  have c2 : (2 : Int) ≤ cc := by omega
  have c4 : (4 : Int) ≤ cc := by omega
  have c3 : (3 : Int) ≤ cc := by omega
  have yk : W.cell? ⟨w.heap.size, 4, none⟩ = some (.string { data := #[99, 104, 97, 110, 103, 101, 100] }) := by rw [hW]; exact (Bk.new w 64 _).cell 4
  go_wp2_with fail
  rw [← hW]
  clear hW x0 x1 x2 x3
  have hwr : IntKind.i64.wrap 4 = 4 := by decide
  go_region_held3 (fun w' => w'.cell? ⟨b0, off + 2, none⟩ = some (.int .i64 5) ∧ w'.cell? ⟨w.heap.size, 4, none⟩ = some (.string { data := #[99, 104, 97, 110, 103, 101, 100] }))
    (first | ((try go_split_ands); (try dsimp only); (repeat' apply And.intro) <;> (first | with_reducible assumption | ((with_reducible refine (hc5 _ _ ?_).trans ?_) <;> first | with_reducible assumption | omega | exact y2 | exact yk | (simp <;> omega)) | ((with_reducible refine (hc4 _ _ ?_).trans ?_) <;> first | with_reducible assumption | omega | exact y2 | exact yk | (simp <;> omega)) | go_keep)))
    (first
      | (go_at_call 40; ((with_reducible refine (jn_two a b _ _ _ (rd_two hrW.drew) (by omega) (by omega) hPW.drew).mono ?_); rintro e w4 ⟨rfl, hb4⟩; (have hc4 := (bcell hb4).1); (have s4 : W.heap.size ≤ w4.heap.size := hb4.size); (have hP4 := hPW.drew.st hb4); (have hr4 := hrW.drew.st hb4)))
      | (go_at_call 40; ((with_reducible refine (jn_last d _ _ _ (rd_last hr4) (by omega) hP4).mono ?_); rintro e w5 ⟨rfl, hb5⟩; (have hc5 := (bcell hb5).1); (have s5 : w4.heap.size ≤ w5.heap.size := hb5.size))))
  have hB : Below w.heap.size w w5 := ((hBW.drew).trans (hb4.mono (by show w.heap.size ≤ W.heap.size; omega))).trans (hb5.mono (by omega))
  clear hb4 hb5 hc4 hc5
  go_wp2_with fail
  go_ret2
  exact ⟨rfl, hB⟩

set_option maxRecDepth 100000 in
set_option maxHeartbeats 4000000 in
theorem sFaultText_any (l : List Int) (A : Option Addr) (cc : Nat) {lo hi : Nat} (w : World) (hr0 : Rd w lo hi A l) (hl : l.length ≤ 9223372036854775806) :
    Calls Tryd.prog 18 #[.slice A l.length cc] w fun e w' => e = .returned (.tuple #[.string (str (ftL l)), .bool (ftB l)]) ∧ Below w.heap.size w w' := by
  have hr := hr0.std
  clear hr0
  by_cases h4 : l.length = 4
  · obtain ⟨a, b, c, d, rfl⟩ := ft_four h4
    show Calls Tryd.prog 18 #[.slice A 4 cc] w _
    cases q1 : inB a 1 999 with
    | false =>
      have hq : ftB [a, b, c, d] = false := by simp [ftB, q1]
      rw [ft_no hq, hq]
      clear hq
      have hc := hr (by simp)
      obtain ⟨b0, off, rfl, _, hlt0, hc⟩ := hc
      have x0 : w.cell? ⟨b0, off, none⟩ = some (.int .i64 a) := hc 0 (by simp)
      have x1 : w.cell? ⟨b0, off + 1, none⟩ = some (.int .i64 b) := hc 1 (by simp)
      have x2 : w.cell? ⟨b0, off + 2, none⟩ = some (.int .i64 c) := hc 2 (by simp)
      have x3 : w.cell? ⟨b0, off + 3, none⟩ = some (.int .i64 d) := hc 3 (by simp)
      clear hc
      go_enter Tryd.func18, Tryd.ntmps18
      go_wp2_with (first | (go_at_call 41; (with_reducible refine (l1In_u a 1 999 _ _ q1).mono ?_); rintro e w1 ⟨rfl, rfl⟩))
      go_ret2
      exact ⟨rfl, Below.refl _ _⟩
    | true =>
      cases q2 : inB b 0 8 with
      | false =>
        have hq : ftB [a, b, c, d] = false := by simp [ftB, q1, q2]
        rw [ft_no hq, hq]
        clear hq
        have hc := hr (by simp)
        obtain ⟨b0, off, rfl, _, hlt0, hc⟩ := hc
        have x0 : w.cell? ⟨b0, off, none⟩ = some (.int .i64 a) := hc 0 (by simp)
        have x1 : w.cell? ⟨b0, off + 1, none⟩ = some (.int .i64 b) := hc 1 (by simp)
        have x2 : w.cell? ⟨b0, off + 2, none⟩ = some (.int .i64 c) := hc 2 (by simp)
        have x3 : w.cell? ⟨b0, off + 3, none⟩ = some (.int .i64 d) := hc 3 (by simp)
        clear hc
        go_enter Tryd.func18, Tryd.ntmps18
        go_wp2_with (first | (go_at_call 41; (with_reducible refine (l1In_u a 1 999 _ _ q1).mono ?_); rintro e w1 ⟨rfl, rfl⟩) | (go_at_call 41; (with_reducible refine (l1In_u b 0 8 _ _ q2).mono ?_); rintro e w1 ⟨rfl, rfl⟩))
        go_ret2
        exact ⟨rfl, Below.refl _ _⟩
      | true =>
        cases q3 : inB c 1 5 with
        | false =>
          have hq : ftB [a, b, c, d] = false := by simp [ftB, q1, q2, q3]
          rw [ft_no hq, hq]
          clear hq
          have hc := hr (by simp)
          obtain ⟨b0, off, rfl, _, hlt0, hc⟩ := hc
          have x0 : w.cell? ⟨b0, off, none⟩ = some (.int .i64 a) := hc 0 (by simp)
          have x1 : w.cell? ⟨b0, off + 1, none⟩ = some (.int .i64 b) := hc 1 (by simp)
          have x2 : w.cell? ⟨b0, off + 2, none⟩ = some (.int .i64 c) := hc 2 (by simp)
          have x3 : w.cell? ⟨b0, off + 3, none⟩ = some (.int .i64 d) := hc 3 (by simp)
          clear hc
          go_enter Tryd.func18, Tryd.ntmps18
          go_wp2_with (first | (go_at_call 41; (with_reducible refine (l1In_u a 1 999 _ _ q1).mono ?_); rintro e w1 ⟨rfl, rfl⟩) | (go_at_call 41; (with_reducible refine (l1In_u b 0 8 _ _ q2).mono ?_); rintro e w1 ⟨rfl, rfl⟩) | (go_at_call 41; (with_reducible refine (l1In_u c 1 5 _ _ q3).mono ?_); rintro e w1 ⟨rfl, rfl⟩))
          go_ret2
          exact ⟨rfl, Below.refl _ _⟩
        | true =>
          cases q4 : inB d 0 7 with
          | false =>
            have hq : ftB [a, b, c, d] = false := by simp [ftB, q1, q2, q3, q4]
            rw [ft_no hq, hq]
            clear hq
            have hc := hr (by simp)
            obtain ⟨b0, off, rfl, _, hlt0, hc⟩ := hc
            have x0 : w.cell? ⟨b0, off, none⟩ = some (.int .i64 a) := hc 0 (by simp)
            have x1 : w.cell? ⟨b0, off + 1, none⟩ = some (.int .i64 b) := hc 1 (by simp)
            have x2 : w.cell? ⟨b0, off + 2, none⟩ = some (.int .i64 c) := hc 2 (by simp)
            have x3 : w.cell? ⟨b0, off + 3, none⟩ = some (.int .i64 d) := hc 3 (by simp)
            clear hc
            go_enter Tryd.func18, Tryd.ntmps18
            go_wp2_with (first | (go_at_call 41; (with_reducible refine (l1In_u a 1 999 _ _ q1).mono ?_); rintro e w1 ⟨rfl, rfl⟩) | (go_at_call 41; (with_reducible refine (l1In_u b 0 8 _ _ q2).mono ?_); rintro e w1 ⟨rfl, rfl⟩) | (go_at_call 41; (with_reducible refine (l1In_u c 1 5 _ _ q3).mono ?_); rintro e w1 ⟨rfl, rfl⟩) | (go_at_call 41; (with_reducible refine (l1In_u d 0 7 _ _ q4).mono ?_); rintro e w1 ⟨rfl, rfl⟩))
            go_ret2
            exact ⟨rfl, Below.refl _ _⟩
          | true =>
            have hq : ftB [a, b, c, d] = true := by simp [ftB, q1, q2, q3, q4]
            have hL : ftL [a, b, c, d] = f6 a b c d := by rw [ftL, hq]; rfl
            rw [hL, hq]
            have hc15 : 1 ≤ c ∧ c ≤ 5 := by simpa [inB] using q3
            have hc5 : c = 1 ∨ c = 2 ∨ c = 3 ∨ c = 4 ∨ c = 5 := by omega
            rcases hc5 with rfl | rfl | rfl | rfl | rfl
            · exact sFault1 a b d A cc w hr q1 q2 q4
            · exact sFault2 a b d A cc w hr q1 q2 q4
            · exact sFault3 a b d A cc w hr q1 q2 q4
            · exact sFault4 a b d A cc w hr q1 q2 q4
            · exact sFault5 a b d A cc w hr q1 q2 q4
  · have hq : ftB l = false := by simp [ftB, h4]
    rw [ft_no hq, hq]
    have h5 : ¬ (l.length : Int) = 4 := by omega
    clear hq
    go_enter Tryd.func18, Tryd.ntmps18
    go_wp2_with fail
    go_ret2
    exact ⟨rfl, Below.refl _ _⟩

set_option maxRecDepth 100000 in
set_option maxHeartbeats 4000000 in
theorem iFaultText_any (l : List Int) (A : Option Addr) (cc : Nat) {lo hi : Nat} (w : World) (hr0 : Rd w lo hi A l) (hl : l.length ≤ 9223372036854775806) (hcap : l.length ≤ cc) (hP : Pow w) :
    Calls Tryd.prog 17 #[.slice A l.length cc] w fun e w' => e = .returned (.tuple #[.string (str (ftL l)), .bool (ftB l)]) ∧ Below w.heap.size w w' := by
  have hr := hr0.std
  clear hr0
  by_cases h4 : l.length = 4
  · obtain ⟨a, b, c, d, rfl⟩ := ft_four h4
    show Calls Tryd.prog 17 #[.slice A 4 cc] w _
    cases q1 : inB a 1 999 with
    | false =>
      have hq : ftB [a, b, c, d] = false := by simp [ftB, q1]
      rw [ft_no hq, hq]
      clear hq
      have hc := hr (by simp)
      obtain ⟨b0, off, rfl, _, hlt0, hc⟩ := hc
      have x0 : w.cell? ⟨b0, off, none⟩ = some (.int .i64 a) := hc 0 (by simp)
      have x1 : w.cell? ⟨b0, off + 1, none⟩ = some (.int .i64 b) := hc 1 (by simp)
      have x2 : w.cell? ⟨b0, off + 2, none⟩ = some (.int .i64 c) := hc 2 (by simp)
      have x3 : w.cell? ⟨b0, off + 3, none⟩ = some (.int .i64 d) := hc 3 (by simp)
      clear hc
      go_enter Tryd.func17, Tryd.ntmps17
      go_wp2_with (first | (go_at_call 39; (with_reducible refine (within_u a 1 999 _ _ q1).mono ?_); rintro e w1 ⟨rfl, rfl⟩))
      go_ret2
      exact ⟨rfl, Below.refl _ _⟩
    | true =>
      cases q2 : inB b 0 8 with
      | false =>
        have hq : ftB [a, b, c, d] = false := by simp [ftB, q1, q2]
        rw [ft_no hq, hq]
        clear hq
        have hc := hr (by simp)
        obtain ⟨b0, off, rfl, _, hlt0, hc⟩ := hc
        have x0 : w.cell? ⟨b0, off, none⟩ = some (.int .i64 a) := hc 0 (by simp)
        have x1 : w.cell? ⟨b0, off + 1, none⟩ = some (.int .i64 b) := hc 1 (by simp)
        have x2 : w.cell? ⟨b0, off + 2, none⟩ = some (.int .i64 c) := hc 2 (by simp)
        have x3 : w.cell? ⟨b0, off + 3, none⟩ = some (.int .i64 d) := hc 3 (by simp)
        clear hc
        go_enter Tryd.func17, Tryd.ntmps17
        go_wp2_with (first | (go_at_call 39; (with_reducible refine (within_u a 1 999 _ _ q1).mono ?_); rintro e w1 ⟨rfl, rfl⟩) | (go_at_call 39; (with_reducible refine (within_u b 0 8 _ _ q2).mono ?_); rintro e w1 ⟨rfl, rfl⟩))
        go_ret2
        exact ⟨rfl, Below.refl _ _⟩
      | true =>
        cases q3 : inB c 1 5 with
        | false =>
          have hq : ftB [a, b, c, d] = false := by simp [ftB, q1, q2, q3]
          rw [ft_no hq, hq]
          clear hq
          have hc := hr (by simp)
          obtain ⟨b0, off, rfl, _, hlt0, hc⟩ := hc
          have x0 : w.cell? ⟨b0, off, none⟩ = some (.int .i64 a) := hc 0 (by simp)
          have x1 : w.cell? ⟨b0, off + 1, none⟩ = some (.int .i64 b) := hc 1 (by simp)
          have x2 : w.cell? ⟨b0, off + 2, none⟩ = some (.int .i64 c) := hc 2 (by simp)
          have x3 : w.cell? ⟨b0, off + 3, none⟩ = some (.int .i64 d) := hc 3 (by simp)
          clear hc
          go_enter Tryd.func17, Tryd.ntmps17
          go_wp2_with (first | (go_at_call 39; (with_reducible refine (within_u a 1 999 _ _ q1).mono ?_); rintro e w1 ⟨rfl, rfl⟩) | (go_at_call 39; (with_reducible refine (within_u b 0 8 _ _ q2).mono ?_); rintro e w1 ⟨rfl, rfl⟩) | (go_at_call 39; (with_reducible refine (within_u c 1 5 _ _ q3).mono ?_); rintro e w1 ⟨rfl, rfl⟩))
          go_ret2
          exact ⟨rfl, Below.refl _ _⟩
        | true =>
          cases q4 : inB d 0 7 with
          | false =>
            have hq : ftB [a, b, c, d] = false := by simp [ftB, q1, q2, q3, q4]
            rw [ft_no hq, hq]
            clear hq
            have hc := hr (by simp)
            obtain ⟨b0, off, rfl, _, hlt0, hc⟩ := hc
            have x0 : w.cell? ⟨b0, off, none⟩ = some (.int .i64 a) := hc 0 (by simp)
            have x1 : w.cell? ⟨b0, off + 1, none⟩ = some (.int .i64 b) := hc 1 (by simp)
            have x2 : w.cell? ⟨b0, off + 2, none⟩ = some (.int .i64 c) := hc 2 (by simp)
            have x3 : w.cell? ⟨b0, off + 3, none⟩ = some (.int .i64 d) := hc 3 (by simp)
            clear hc
            go_enter Tryd.func17, Tryd.ntmps17
            go_wp2_with (first | (go_at_call 39; (with_reducible refine (within_u a 1 999 _ _ q1).mono ?_); rintro e w1 ⟨rfl, rfl⟩) | (go_at_call 39; (with_reducible refine (within_u b 0 8 _ _ q2).mono ?_); rintro e w1 ⟨rfl, rfl⟩) | (go_at_call 39; (with_reducible refine (within_u c 1 5 _ _ q3).mono ?_); rintro e w1 ⟨rfl, rfl⟩) | (go_at_call 39; (with_reducible refine (within_u d 0 7 _ _ q4).mono ?_); rintro e w1 ⟨rfl, rfl⟩))
            go_ret2
            exact ⟨rfl, Below.refl _ _⟩
          | true =>
            have hq : ftB [a, b, c, d] = true := by simp [ftB, q1, q2, q3, q4]
            have hL : ftL [a, b, c, d] = f6 a b c d := by rw [ftL, hq]; rfl
            rw [hL, hq]
            have hc15 : 1 ≤ c ∧ c ≤ 5 := by simpa [inB] using q3
            have hc5 : c = 1 ∨ c = 2 ∨ c = 3 ∨ c = 4 ∨ c = 5 := by omega
            rcases hc5 with rfl | rfl | rfl | rfl | rfl
            · exact iFault1 a b d A cc w hr q1 q2 q4 hcap hP
            · exact iFault2 a b d A cc w hr q1 q2 q4 hcap hP
            · exact iFault3 a b d A cc w hr q1 q2 q4 hcap hP
            · exact iFault4 a b d A cc w hr q1 q2 q4 hcap hP
            · exact iFault5 a b d A cc w hr q1 q2 q4 hcap hP
  · have hq : ftB l = false := by simp [ftB, h4]
    rw [ft_no hq, hq]
    have h5 : ¬ (l.length : Int) = 4 := by omega
    clear hq
    go_enter Tryd.func17, Tryd.ntmps17
    go_wp2_with fail
    go_ret2
    exact ⟨rfl, Below.refl _ _⟩

end Go.Proofs.YtjhbffndiaggmaaDoor
