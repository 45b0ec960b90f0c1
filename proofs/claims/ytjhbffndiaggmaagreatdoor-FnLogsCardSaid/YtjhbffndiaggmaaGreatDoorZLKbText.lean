/-
  Contracts of KeyBookText, in the reference and in the program. The conditions are bounds on lengths, and the library's table.
-/
import Derived.Test.YtjhbffndiaggmaaGreatDoorZLJoinN
import Derived.Test.YtjhbffndiaggmaaGreatDoorBL18
import Derived.Test.YtjhbffndiaggmaaGreatDoorBL2
import Derived.Deep.RegionHeld3
namespace Go.Proofs.YtjhbffndiaggmaaGreatDoor
open Go.RowKit Go.ChangeShapes Go.WideShapes
set_option linter.unusedVariables false
set_option linter.unusedSimpArgs false

/-- the text of a key book with its first k pages -/
def kbTo (key pages : Int) (zs : List Int) (k : Nat) : List UInt8 := ((numS key ++ [32]) ++ numS pages) ++ ((zs.take k).map fun n => [45] ++ numS n).flatten
theorem kbTo_zero (key pages : Int) (zs : List Int) : kbTo key pages zs 0 = (numS key ++ [32]) ++ numS pages := by simp [kbTo]
theorem kbTo_succ {key pages : Int} {zs : List Int} {k : Nat} (h : k < zs.length) : kbTo key pages zs (k + 1) = kbTo key pages zs k ++ ([45] ++ numS zs[k]) := by
  unfold kbTo; rw [List.take_succ_eq_append_getElem h, List.map_append, List.flatten_append]; simp
theorem kbTo_len {key pages : Int} {zs : List Int} (h0 : 0 ≤ key ∧ key ≤ 1000000000) (h1 : 1 ≤ pages ∧ pages ≤ 60) (h2 : ∀ k (_ : k < zs.length), 0 ≤ zs[k] ∧ zs[k] ≤ pages - 1) (k : Nat) (hk : k ≤ zs.length) : (kbTo key pages zs k).length ≤ 39 + 20 * k := by
  induction k with
  | zero =>
    have a := numS_len h0.1 (by omega)
    have b := numS_len (n := pages) (by omega) (by omega)
    rw [kbTo_zero]; simp only [List.length_append, List.length_cons, List.length_nil]; omega
  | succ k ih =>
    have h3 := h2 k (by omega)
    have a := numS_len (n := zs[k]) h3.1 (by omega)
    have := ih (by omega)
    rw [kbTo_succ (by omega)]; simp only [List.length_append, List.length_cons, List.length_nil]; omega
def ktL (key pages : Int) (zs : List Int) : List UInt8 := if kbB key pages zs then kbTo key pages zs zs.length else []
theorem ktL_no {key pages : Int} {zs : List Int} (h : kbB key pages zs = false) : ktL key pages zs = [] := by simp [ktL, h]
theorem ktL_yes {key pages : Int} {zs : List Int} (h : kbB key pages zs = true) : ktL key pages zs = kbTo key pages zs zs.length := by simp [ktL, h]
theorem kb_most {key pages : Int} {zs : List Int} (h : kbB key pages zs = true) : zs.length ≤ 60 := by
  have h4 := kb_len h
  have h5 := (kb_facts h).2.1
  omega
set_option maxRecDepth 100000 in
set_option maxHeartbeats 2000000 in
theorem kyNumber_any (k : Nat) : ∀ (n : Int) (w : World), 0 ≤ n → n < 10 ^ (k + 1) → n ≤ 1000000000000000000 →
    Calls Tryz.prog 145 #[.int .i64 n] w fun e w' => e = .returned (.string (str (numS n))) ∧ Below w.heap.size w w' := by
  induction k with
  | zero =>
    intro n w h0 h1 h2
    have h3 : n < 10 := by simpa using h1
    clear h1
    go_enter Tryz.func145, Tryz.ntmps145
    go_wp2_with fail
    (with_reducible refine (l1Num_n n _ h0 h2).mono ?_)
    rintro e w1 ⟨rfl, hb1⟩
    go_wp2_with fail
    go_ret
    exact ⟨rfl, hb1⟩
  | succ k ih =>
    intro n w h0 h1 h2
    by_cases h3 : n < 10
    · clear h1 ih
      go_enter Tryz.func145, Tryz.ntmps145
      go_wp2_with fail
      (with_reducible refine (l1Num_n n _ h0 h2).mono ?_)
      rintro e w1 ⟨rfl, hb1⟩
      go_wp2_with fail
      go_ret
      exact ⟨rfl, hb1⟩
    · have hq := numS_ge (show 10 ≤ n by omega)
      have hq2 : numS (n % 10) = [UInt8.ofNat (48 + (n % 10).toNat)] := numS_lt (by omega) (by omega)
      have hj : str (numS (n / 10)) ++ str (numS (n % 10)) = str (numS n) := by rw [str_append, hq, hq2]
      have h4 : n / 10 < 10 ^ (k + 1) := by
        have : (10 : Int) ^ (k + 1 + 1) = 10 ^ (k + 1) * 10 := by rw [Int.pow_succ]
        omega
      have h4H := Lib.hid h4
      have hd : decide (n < 10) = false := by simpa using h3
      have h10 : 10 ≤ n := by omega
      have l1 := numS_len (n := n / 10) (by omega) (by omega)
      have l2 := numS_len (n := n % 10) (by omega) (by omega)
      have hs : (str (numS (n / 10))).size + (str (numS (n % 10))).size ≤ 9223372036854775807 := by rw [str_size, str_size]; omega
      clear h1 h4 hq hq2 h3
      go_enter Tryz.func145, Tryz.ntmps145
      go_wp2_with fail
      (with_reducible refine (ih (n / 10) _ (by omega) h4H.out (by omega)).mono ?_)
      rintro e w1 ⟨rfl, hb1⟩
      have s1 := hb1.size
      go_wp2_with fail
      (with_reducible refine (l1Num_n (n % 10) _ (by omega) (by omega)).mono ?_)
      rintro e w2 ⟨rfl, hb2⟩
      have hB := hb1.trans (hb2.mono s1)
      go_wp2_with fail
      go_ret
      exact ⟨rfl, hB⟩
theorem kyNumber_n (n : Int) (w : World) (h0 : 0 ≤ n) (h1 : n ≤ 1000000000) :
    Calls Tryz.prog 145 #[.int .i64 n] w fun e w' => e = .returned (.string (str (numS n))) ∧ Below w.heap.size w w' :=
  kyNumber_any 9 n w h0 (by omega) (by omega)

theorem kyGood_w (key pages : Int) (zs : List Int) (A : Option Addr) (c : Nat) {l h : Nat} (w : World) (hr : Rd w l h A zs) (hl : zs.length ≤ 9223372036854775806) (v : Bool) (hv : kbB key pages zs = v) :
    Calls Tryz.prog 74 #[.agg #[.int .i64 key, .int .i64 pages, .slice A zs.length c]] w fun e w' => e = .returned (.bool v) ∧ Below w.heap.size w w' := by
  subst hv; exact kyGood_any key pages zs A c w hr hl
theorem iIsKeyBook_w (key pages : Int) (zs : List Int) (A : Option Addr) (c : Nat) {l h : Nat} (w : World) (hr : Rd w l h A zs) (hl : zs.length ≤ 9223372036854775806) (v : Bool) (hv : kbB key pages zs = v) :
    Calls Tryz.prog 15 #[.agg #[.int .i64 key, .int .i64 pages, .slice A zs.length c]] w fun e w' => e = .returned (.bool v) ∧ Below w.heap.size w w' := by
  subst hv; exact iIsKeyBook_any key pages zs A c w hr hl
set_option maxRecDepth 100000 in
set_option maxHeartbeats 4000000 in
theorem kyText_any (key pages : Int) (zs : List Int) (A : Option Addr) (c : Nat) {l h : Nat} (w : World) (hr0 : Rd w l h A zs) (hkb : kbB key pages zs = true) :
    Calls Tryz.prog 75 #[.agg #[.int .i64 key, .int .i64 pages, .slice A zs.length c]] w fun e w' => e = .returned (.string (str (kbTo key pages zs zs.length))) ∧ Below w.heap.size w w' := by
  have hr := hr0.std
  have hz := kb_most hkb
  obtain ⟨⟨hk0, hk1⟩, ⟨hp0, hp1⟩, _, hpgs⟩ := kb_facts hkb
  have hpg := Lib.hid hpgs
  have hnn := Lib.hid (fun k hk => kbTo_len (zs := zs) ⟨hk0, hk1⟩ ⟨hp0, hp1⟩ hpgs k hk)
  clear hr0 hkb hpgs
  obtain ⟨W, hW⟩ : ∃ W, W = w.alloc (.cells #[.int .i64 key, .int .i64 pages, .slice A zs.length c] 26) := ⟨_, rfl⟩
  have sW : W.heap.size = w.heap.size + 1 := by rw [hW]; simp
  have hbkW : Bk W w.heap.size 26 #[.int .i64 key, .int .i64 pages, .slice A zs.length c] := by rw [hW]; exact Bk.new w _ _
  have hrW : Rd W 0 w.heap.size A zs := by rw [hW]; exact hr.alloc _
  have hBW : Below w.heap.size w W := by rw [hW]; exact (Below.refl _ _).alloc (Nat.le_refl _) _
  have y0 := hbkW.cell 0
  have y1 := hbkW.cell 1
  have y2 := hbkW.cell 2
  simp at y0 y1 y2
  go_enter Tryz.func75, Tryz.ntmps75
  go_wp2_with fail
  rw [← hW]
  clear hW
  have hl1 := numS_len hk0 (by omega)
  have hl2 := numS_len (n := pages) (by omega) (by omega)
  have j1 : str (numS key) ++ { data := #[32] } = str (numS key ++ [32]) := by show str (numS key) ++ str [32] = _; rw [str_append]
  have j2 : str (numS key ++ [32]) ++ str (numS pages) = str (kbTo key pages zs 0) := by rw [str_append, kbTo_zero]
  have n1 : ¬ (9223372036854775807 < (str (numS key)).size + 1) := by rw [str_size]; omega
  have n1' : ¬ (9223372036854775807 < (str (numS key)).size + ({ data := #[32] } : ByteArray).size) := by rw [str_size]; show ¬ (_ < _ + 1); omega
  have n2 : ¬ (9223372036854775807 < (str (numS key ++ [32])).size + (str (numS pages)).size) := by rw [str_size, str_size]; simp; omega
  go_region_held3 (fun w' => w'.cell? ⟨w.heap.size, 0, none⟩ = some (.int .i64 key) ∧ w'.cell? ⟨w.heap.size, 1, none⟩ = some (.int .i64 pages))
    (first | go_keep | ((try go_split_ands); (try dsimp only); (repeat' apply And.intro) <;> (first | with_reducible assumption | ((with_reducible refine (hc5 _ _ ?_).trans ?_) <;> first | with_reducible assumption | omega | (simp <;> omega)) | ((with_reducible refine (hc4 _ _ ?_).trans ?_) <;> first | with_reducible assumption | omega | (simp <;> omega)) | go_keep)))
    (first
      | (go_at_call 145; ((with_reducible refine (kyNumber_n key _ hk0 hk1).mono ?_); rintro e w4 ⟨rfl, hb4⟩; (have hc4 := (bcell hb4).1); (have s4 : W.heap.size ≤ w4.heap.size := hb4.size); skip))
      | (go_at_call 146; ((with_reducible refine (l1Num_n pages _ (by omega) (by omega)).mono ?_); rintro e w5 ⟨rfl, hb5⟩; (have hc5 := (bcell hb5).1); (have s5 : w4.heap.size ≤ w5.heap.size := hb5.size))))
  have hBW5 : Below w.heap.size w w5 := ((hBW.drew).trans (hb4.mono (by show w.heap.size ≤ W.heap.size; omega))).trans (hb5.mono (by omega))
  have hbk5 := ((hbkW.drew).st hb4).st hb5
  have hr5 := ((hrW.drew).st hb4).st hb5
  have z2 := hbk5.cell 2
  simp at z2
  skip
  clear hb4 hb5 hc4 hc5 n1 n1' n2 j1 j2 y0 y1 y2
  go_wp2_with fail
  go_loopw [3, 5, 17] (fun s _ i wr => ∃ k : Nat, k ≤ zs.length ∧ i = .int .i64 k ∧ s = .string (str (kbTo key pages zs k)) ∧ Below w5.heap.size w5 wr) (fun _ _ i _ => zs.length - (intOf i).toNat)
  case atStart => exact ⟨0, Nat.zero_le _, rfl, rfl, Below.refl _ _⟩
  case round =>
    obtain ⟨k, hk, rfl, rfl, hbr⟩ := hrel
    have hszr := hbr.size
    by_cases hlt : k < zs.length
    · obtain ⟨b0, off, rfl, _, _, hc⟩ := (hr5.st hbr) (by omega)
      have x0 := hc k hlt
      obtain ⟨hn0, hn1⟩ := hpg.out k hlt
      have hnl := numS_len hn0 (by omega)
      have hln := hnn.out k hk
      have j3 : ({ data := #[45] } : ByteArray) ++ str (numS zs[k]) = str (45 :: numS zs[k]) := by show str [45] ++ str (numS zs[k]) = _; rw [str_append]; rfl
      have j4 : str (kbTo key pages zs k) ++ str (45 :: numS zs[k]) = str (kbTo key pages zs (k + 1)) := by rw [str_append, kbTo_succ hlt]; rfl
      have m1 : 1 + (str (numS zs[k])).size ≤ 9223372036854775807 := by rw [str_size]; omega
      have m2 : (str (kbTo key pages zs k)).size + (str (45 :: numS zs[k])).size ≤ 9223372036854775807 := by rw [str_size, str_size]; simp; omega
      skip
      clear hc
      go_wp2_with fail
      (with_reducible refine (l1Num_n zs[k] _ hn0 (by omega)).mono ?_)
      rintro e w6 ⟨rfl, hb6⟩
      have hB6 := Lib.hid (hbr.trans (hb6.mono hszr))
      clear hb6 hbr 
      go_wp2_with fail
      go_roundw
      case rel => exact ⟨k + 1, by omega, by go_num, rfl, hB6.out⟩
      case measure => simp [intOf]; omega
    · obtain rfl : k = zs.length := by omega
      have hB := Lib.hid (hBW5.trans (hbr.mono (by have := hBW5.size; omega)))
      clear hbr
      go_wp2_with fail
      go_ret
      exact ⟨rfl, hB.out⟩
set_option maxRecDepth 100000 in
theorem sKeyBookText_any (key pages : Int) (zs : List Int) (A : Option Addr) (c : Nat) {l h : Nat} (w : World) (hr : Rd w l h A zs) (hl : zs.length ≤ 1048576) :
    Calls Tryz.prog 9 #[.agg #[.int .i64 key, .int .i64 pages, .slice A zs.length c]] w fun e w' => e = .returned (.tuple #[.string (str (ktL key pages zs)), .bool (kbB key pages zs)]) ∧ Below w.heap.size w w' := by
  have bk := Bk.new w 26 #[.int .i64 key, .int .i64 pages, .slice A zs.length c]
  cases q : kbB key pages zs with
  | false =>
    rw [ktL_no q]
    go_enter Tryz.func9, Tryz.ntmps9
    go_wp2_with (go_at_call 74; (with_reducible refine (kyGood_w key pages zs A c _ (hr.alloc _) (by omega) _ q).mono ?_); rintro e w1 ⟨rfl, hb1⟩)
    have hB := ((Below.refl w.heap.size w).alloc (Nat.le_refl _) _).trans (hb1.mono (by simp))
    go_ret2
    exact ⟨rfl, hB⟩
  | true =>
    rw [ktL_yes q]
    have qH := Lib.hid q
    go_enter Tryz.func9, Tryz.ntmps9
    go_wp2_with fail
    (with_reducible refine (kyGood_w key pages zs A c _ (hr.alloc _) (by omega) _ q).mono ?_)
    rintro e w1 ⟨rfl, hb1⟩
    have s1 : w.heap.size + 1 ≤ w1.heap.size := by have := hb1.size; simpa using this
    have bk1 := bk.st hb1
    have y0 := bk1.cell 0
    have y1 := bk1.cell 1
    have y2 := bk1.cell 2
    simp at y0 y1 y2
    have hr1 := (hr.alloc (.cells #[.int .i64 key, .int .i64 pages, .slice A zs.length c] 26)).st hb1
    have hB1 := ((Below.refl w.heap.size w).alloc (Nat.le_refl _) (.cells #[.int .i64 key, .int .i64 pages, .slice A zs.length c] 26)).trans (hb1.mono (by simp))
    clear q hb1 bk bk1
    go_wp2_with fail
    (with_reducible refine (kyText_any key pages zs A c _ hr1 qH.out).mono ?_)
    rintro e w2 ⟨rfl, hb2⟩
    have hB := hB1.trans (hb2.mono (by omega))
    go_wp2_with fail
    go_ret2
    exact ⟨rfl, hB⟩
set_option maxRecDepth 100000 in
set_option maxHeartbeats 4000000 in
theorem iKeyBookText_any (key pages : Int) (zs : List Int) (A : Option Addr) (c : Nat) {l h : Nat} (w : World) (hr : Rd w l h A zs) (hl : zs.length ≤ 1048576) (hP : Pow w) :
    Calls Tryz.prog 8 #[.agg #[.int .i64 key, .int .i64 pages, .slice A zs.length c]] w fun e w' => e = .returned (.tuple #[.string (str (ktL key pages zs)), .bool (kbB key pages zs)]) ∧ Below w.heap.size w w' := by
  have bk := Bk.new w 26 #[.int .i64 key, .int .i64 pages, .slice A zs.length c]
  cases q : kbB key pages zs with
  | false =>
    rw [ktL_no q]
    go_enter Tryz.func8, Tryz.ntmps8
    go_wp2_with (go_at_call 15; (with_reducible refine (iIsKeyBook_w key pages zs A c _ (hr.alloc _) (by omega) _ q).mono ?_); rintro e w1 ⟨rfl, hb1⟩)
    have hB := ((Below.refl w.heap.size w).alloc (Nat.le_refl _) _).trans (hb1.mono (by simp))
    go_ret2
    exact ⟨rfl, hB⟩
  | true =>
    rw [ktL_yes q]
    have hz := kb_most q
    obtain ⟨⟨hk0, hk1⟩, ⟨hp0, hp1⟩, _, hpgs⟩ := kb_facts q
    have hpg := Lib.hid hpgs
    have hnn := Lib.hid (fun k hk => kbTo_len (zs := zs) ⟨hk0, hk1⟩ ⟨hp0, hp1⟩ hpgs k hk)
    clear hpgs
    go_enter Tryz.func8, Tryz.ntmps8
    go_wp2_with fail
    (with_reducible refine (iIsKeyBook_w key pages zs A c _ (hr.alloc _) (by omega) _ q).mono ?_)
    rintro e w1 ⟨rfl, hb1⟩
    have s1 : w.heap.size + 1 ≤ w1.heap.size := by have := hb1.size; simpa using this
    have hbkW := bk.st hb1
    have y0 := hbkW.cell 0
    have y1 := hbkW.cell 1
    have y2 := hbkW.cell 2
    simp at y0 y1 y2
    have hrW := (hr.alloc (.cells #[.int .i64 key, .int .i64 pages, .slice A zs.length c] 26)).st hb1
    have hBW := ((Below.refl w.heap.size w).alloc (Nat.le_refl _) (.cells #[.int .i64 key, .int .i64 pages, .slice A zs.length c] 26)).trans (hb1.mono (by simp))
    have hPW := (hP.alloc (.cells #[.int .i64 key, .int .i64 pages, .slice A zs.length c] 26)).st hb1
    clear q hb1 bk
    go_wp2_with fail
    have hl1 := numS_len hk0 (by omega)
    have hl2 := numS_len (n := pages) (by omega) (by omega)
    have j1 : str (numS key) ++ { data := #[32] } = str (numS key ++ [32]) := by show str (numS key) ++ str [32] = _; rw [str_append]
    have j2 : str (numS key ++ [32]) ++ str (numS pages) = str (kbTo key pages zs 0) := by rw [str_append, kbTo_zero]
    have n1 : ¬ (9223372036854775807 < (str (numS key)).size + 1) := by rw [str_size]; omega
    have n1' : ¬ (9223372036854775807 < (str (numS key)).size + ({ data := #[32] } : ByteArray).size) := by rw [str_size]; show ¬ (_ < _ + 1); omega
    have n2 : ¬ (9223372036854775807 < (str (numS key ++ [32])).size + (str (numS pages)).size) := by rw [str_size, str_size]; simp; omega
    go_region_held3 (fun w' => w'.cell? ⟨w.heap.size, 0, none⟩ = some (.int .i64 key) ∧ w'.cell? ⟨w.heap.size, 1, none⟩ = some (.int .i64 pages))
      (first | go_keep | ((try go_split_ands); (try dsimp only); (repeat' apply And.intro) <;> (first | with_reducible assumption | ((with_reducible refine (hc5 _ _ ?_).trans ?_) <;> first | with_reducible assumption | omega | (simp <;> omega)) | ((with_reducible refine (hc4 _ _ ?_).trans ?_) <;> first | with_reducible assumption | omega | (simp <;> omega)) | go_keep)))
      (first
        | (go_at_call 73; ((with_reducible refine (Itoa_n key _ hk0 (by omega) hPW.drew).mono ?_); rintro e w4 ⟨rfl, hb4⟩; (have hc4 := (bcell hb4).1); (have s4 : w1.heap.size ≤ w4.heap.size := hb4.size); (have hPW2 := hPW.drew.st hb4)))
        | (go_at_call 73; ((with_reducible refine (Itoa_n pages _ (by omega) (by omega) hPW2).mono ?_); rintro e w5 ⟨rfl, hb5⟩; (have hc5 := (bcell hb5).1); (have s5 : w4.heap.size ≤ w5.heap.size := hb5.size))))
    have hBW5 : Below w.heap.size w w5 := ((hBW.drew).trans (hb4.mono (by show w.heap.size ≤ w1.heap.size; omega))).trans (hb5.mono (by omega))
    have hbk5 := ((hbkW.drew).st hb4).st hb5
    have hr5 := ((hrW.drew).st hb4).st hb5
    have z2 := hbk5.cell 2
    simp at z2
    have hP5 := (hPW2).st hb5
    clear hb4 hb5 hc4 hc5 n1 n1' n2 j1 j2 y0 y1 y2
    go_wp2_with fail
    go_loopw [4, 6, 21] (fun s _ i wr => ∃ k : Nat, k ≤ zs.length ∧ i = .int .i64 k ∧ s = .string (str (kbTo key pages zs k)) ∧ Below w5.heap.size w5 wr) (fun _ _ i _ => zs.length - (intOf i).toNat)
    case atStart => exact ⟨0, Nat.zero_le _, rfl, rfl, Below.refl _ _⟩
    case round =>
      obtain ⟨k, hk, rfl, rfl, hbr⟩ := hrel
      have hszr := hbr.size
      by_cases hlt : k < zs.length
      · obtain ⟨b0, off, rfl, _, _, hc⟩ := (hr5.st hbr) (by omega)
        have x0 := hc k hlt
        obtain ⟨hn0, hn1⟩ := hpg.out k hlt
        have hnl := numS_len hn0 (by omega)
        have hln := hnn.out k hk
        have j3 : ({ data := #[45] } : ByteArray) ++ str (numS zs[k]) = str (45 :: numS zs[k]) := by show str [45] ++ str (numS zs[k]) = _; rw [str_append]; rfl
        have j4 : str (kbTo key pages zs k) ++ str (45 :: numS zs[k]) = str (kbTo key pages zs (k + 1)) := by rw [str_append, kbTo_succ hlt]; rfl
        have m1 : 1 + (str (numS zs[k])).size ≤ 9223372036854775807 := by rw [str_size]; omega
        have m2 : (str (kbTo key pages zs k)).size + (str (45 :: numS zs[k])).size ≤ 9223372036854775807 := by rw [str_size, str_size]; simp; omega
        have hPr := hP5.st hbr
        clear hc
        go_wp2_with fail
        (with_reducible refine (Itoa_n zs[k] _ hn0 (by omega) hPr).mono ?_)
        rintro e w6 ⟨rfl, hb6⟩
        have hB6 := Lib.hid (hbr.trans (hb6.mono hszr))
        clear hb6 hbr hPr
        go_wp2_with fail
        go_roundw
        case rel => exact ⟨k + 1, by omega, by go_num, rfl, hB6.out⟩
        case measure => simp [intOf]; omega
      · obtain rfl : k = zs.length := by omega
        have hB := Lib.hid (hBW5.trans (hbr.mono (by have := hBW5.size; omega)))
        clear hbr
        go_wp2_with fail
        go_ret2
        exact ⟨rfl, hB.out⟩
end Go.Proofs.YtjhbffndiaggmaaGreatDoor
