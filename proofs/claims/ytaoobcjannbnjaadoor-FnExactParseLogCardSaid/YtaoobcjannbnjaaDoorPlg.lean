/-
  Contract of ParseLog in the program. The conditions are a bound on the text's length, and the library's variables.
-/
import Derived.Test.YtaoobcjannbnjaaDoorSplitM
import Derived.Test.YtaoobcjannbnjaaDoorPureX
import Derived.Test.YtaoobcjannbnjaaDoorAppR
namespace Go.Proofs.YtaoobcjannbnjaaDoor
open Go.RowKit Go.ChangeShapes Go.WideShapes
set_option linter.unusedVariables false
set_option linter.unusedSimpArgs false

def pqB (s : ByteArray) : Bool := plB s.data.toList
def pqL (s : ByteArray) : List Ent := plL s.data.toList
theorem split3_call (l : List UInt8) (w : World) (hl : l.length ≤ 1048577) (hS : Sen w) :
    Calls Tryd.prog 72 #[.string (str l), .string { data := #[32, 58, 32] }] w fun e w' => e = .returned (.slice (some ⟨w.heap.size, 0, none⟩) (pieces3 l).length (pieces3 l).length) ∧ Bk w' w.heap.size 9 ((pieces3 l).map fun p => Value.string (str p)).toArray ∧ Below w.heap.size w w' := by
  obtain ⟨m, hm⟩ := hS.len
  obtain ⟨h1, h2⟩ := split3_pieces l
  refine (Tryd.strings_Split (str l) (str sep3) m w (by rw [str_size]; omega) hm (by rw [str_size]; simp [sep3])).mono ?_
  rintro e w' ⟨rfl, rfl⟩
  rw [h2, h1, pieces3_length, List.map_map]
  exact ⟨rfl, Bk.new w _ _, (Below.refl _ _).alloc (Nat.le_refl _) _⟩
theorem splitNumbers_w (l : List UInt8) (b : UInt8) (w : World) (hl : l.length ≤ 1048577) (hS : Sen w) :
    Calls Tryd.prog 66 #[.string (str l), .string { data := #[b] }] w fun e w' => ∃ A n c v, e = .returned (.tuple #[.slice A n c, .bool v]) ∧ Below w.heap.size w w' := by
  cases h : rnL (splitL b l) with
  | none => exact (splitNumbers_none l b w hl hS h).mono fun e w' ⟨he, hb⟩ => ⟨none, 0, 0, false, he, hb⟩
  | some ns => exact (splitNumbers_yes l b w hl hS ns h).mono fun e w' ⟨A, c, he, _, hb⟩ => ⟨A, _, c, true, he, hb⟩
theorem suf_iff {l : List UInt8} {b : UInt8} : Lib.hasSuffix l [b] = true ↔ l.getLast? = some b := by
  unfold Lib.hasSuffix
  rw [List.isSuffixOf_iff_suffix, List.getLast?_eq_some_iff]
  constructor
  · rintro ⟨t, ht⟩; exact ⟨t, ht.symm⟩
  · rintro ⟨t, ht⟩; exact ⟨t, ht.symm⟩
theorem cutSuffix_yes (l : List UInt8) (w : World) (hl : l.length ≤ 1048577) (h : l.getLast? = some 10) :
    Calls Tryd.prog 93 #[.string (str l), .string { data := #[10] }] w fun e w' => e = .returned (.tuple #[.string (str l.dropLast), .bool true]) ∧ w' = w := by
  refine (Tryd.strings_CutSuffix (str l) (str [10]) w (by rw [str_size]; omega)).mono ?_
  rintro e w' ⟨he, hw⟩
  have h1 := suf_iff.2 h
  simp only [str_toList, h1] at he
  have h2 : Lib.trimSuffix l [10] = l.dropLast := by
    unfold Lib.trimSuffix
    rw [h1, if_pos rfl, List.dropLast_eq_take]
    rfl
  rw [h2] at he
  exact ⟨he, hw⟩
theorem cutSuffix_no (l : List UInt8) (w : World) (hl : l.length ≤ 1048577) (h : ¬ l.getLast? = some 10) :
    Calls Tryd.prog 93 #[.string (str l), .string { data := #[10] }] w fun e w' => e = .returned (.tuple #[.string (str l), .bool false]) ∧ w' = w := by
  refine (Tryd.strings_CutSuffix (str l) (str [10]) w (by rw [str_size]; omega)).mono ?_
  rintro e w' ⟨he, hw⟩
  have h1 : Lib.hasSuffix l [10] = false := by
    cases hs : Lib.hasSuffix l [10] with
    | false => rfl
    | true => exact absurd (suf_iff.1 hs) h
  simp only [str_toList, h1] at he
  have h2 : Lib.trimSuffix l [10] = l := by
    unfold Lib.trimSuffix
    rw [h1]
    rfl
  rw [h2] at he
  exact ⟨he, hw⟩
/-! ### sizes -/
theorem joinS_ge {l : List Int} {b : UInt8} (h : ∀ n ∈ l, 0 ≤ n) : l.length ≤ (joinS l [b]).length := by
  cases l with
  | nil => simp
  | cons n r =>
    unfold joinS
    rw [List.map_cons, Lib.join_length]
    have h0 := numS_pos (h n (by simp))
    simp [Lib.lens]
    omega
theorem lens_split (b : UInt8) (l : List UInt8) : Lib.lens (splitL b l) ≤ l.length := by
  have h := join_splitL b l
  cases hs : splitL b l with
  | nil => simp [Lib.lens]
  | cons x r =>
    rw [hs] at h
    have h2 := congrArg List.length h
    rw [Lib.join_length] at h2
    omega
theorem lens_map (es : List Ent) (h : ∀ e ∈ es, ∀ n ∈ e.seen ++ e.shown, 0 ≤ n) : eszL es ≤ Lib.lens (es.map p5) := by
  rw [esz_sum]
  unfold Lib.lens
  rw [List.map_map]
  induction es with
  | nil => simp
  | cons e r ih =>
    have h1 := ih (fun x hx => h x (List.mem_cons_of_mem _ hx))
    have h2 := joinS_ge (l := e.seen) (b := 32) (fun n hn => h e (by simp) n (by simp [hn]))
    have h3 := joinS_ge (l := e.shown) (b := 32) (fun n hn => h e (by simp) n (by simp [hn]))
    have h4 : eW e ≤ (p5 e).length := by
      rw [p5_eq]
      simp only [List.length_append, List.length_cons, eW]
      omega
    simp only [List.map_cons, List.sum_cons, Function.comp] at h1 ⊢
    omega
theorem lnO_nn {l : List UInt8} {e : Ent} (h : lnO l = some e) : ∀ n ∈ e.seen ++ e.shown, 0 ≤ n := by
  unfold lnO at h
  split at h
  · rename_i a b c hp
    split at h
    · rename_i t m p y z h1 h2 h3
      obtain rfl := Option.some.inj h
      intro n hn
      rcases List.mem_append.1 hn with hn | hn
      · exact ((rnL_text h2).2.2 n hn).1
      · exact ((rnL_text h3).2.2 n hn).1
    · cases h
  · cases h
theorem ln_size {ls : List (List UInt8)} {es : List Ent} (h : lnL ls = some es) : eszL es ≤ Lib.lens ls := by
  have h1 := lnL_text h
  have h2 := lnL_some h
  rw [h1]
  refine lens_map es fun e he => ?_
  obtain ⟨k, hk, rfl⟩ := List.getElem_of_mem he
  have hk2 : k < ls.length := by rw [h1]; simpa using hk
  have h3 := congrArg (fun x => x[k]?) h2
  simp only [List.getElem?_map, List.getElem?_eq_getElem hk2, List.getElem?_eq_getElem hk, Option.map_some, Option.some.injEq] at h3
  exact lnO_nn h3
theorem pl_size (l : List UInt8) (hl : l.length ≤ 1048576) : eszL (plL l) ≤ 1048576 := by
  cases h : plS l with
  | none => rw [(pl_none h).2, esz_nil]; omega
  | some es =>
    rw [(pl_some h).2]
    have := log_esz (plS_text h).1
    omega
/-- lines read one after another -/
theorem lnL_snoc {ls : List (List UInt8)} {es : List Ent} {k : Nat} {e : Ent} (hk : k < ls.length) (h : lnL (ls.take k) = some es) (h1 : lnO ls[k] = some e) : lnL (ls.take (k + 1)) = some (es ++ [e]) := by
  rw [List.take_succ_eq_append_getElem hk]
  have key : ∀ (a : List (List UInt8)) (es : List Ent), lnL a = some es → lnL (a ++ [ls[k]]) = some (es ++ [e]) := by
    intro a
    induction a with
    | nil => intro es h; obtain rfl := Option.some.inj h; simp [lnL, h1]
    | cons x r ih =>
      intro es h
      cases hx : lnO x with
      | none => simp [lnL, hx] at h
      | some y =>
        cases hr : lnL r with
        | none => simp [lnL, hx, hr] at h
        | some ys =>
          have : es = y :: ys := by simpa [lnL, hx, hr] using h.symm
          subst this
          simp [lnL, hx, ih ys hr]
  exact key _ es h
theorem lnL_bad {ls : List (List UInt8)} {k : Nat} (hk : k < ls.length) (h1 : lnO ls[k] = none) : lnL ls = none := by
  cases h : lnL ls with
  | none => rfl
  | some es =>
    have h2 := lnL_some h
    have h3 := congrArg (fun x => x[k]?) h2
    have hk2 : k < es.length := by have := congrArg List.length h2; simp at this; omega
    simp only [List.getElem?_map, List.getElem?_eq_getElem hk, List.getElem?_eq_getElem hk2, Option.map_some, Option.some.injEq] at h3
    rw [h1] at h3
    cases h3
theorem lnO_len {l : List UInt8} (h : ¬ (pieces3 l).length = 3) : lnO l = none := by
  unfold lnO
  split
  · rename_i a b c hp; rw [hp] at h; exact absurd rfl h
  · rfl
theorem lnO_a {l a b c : List UInt8} (hp : pieces3 l = [a, b, c]) (h : rnL (splitL 32 a) = none) : lnO l = none := by unfold lnO; rw [hp]; simp only [h]
theorem lnO_b {l a b c : List UInt8} (hp : pieces3 l = [a, b, c]) (h : rnL (splitL 32 b) = none) : lnO l = none := by
  unfold lnO; rw [hp]; simp only [h]
  split
  · rename_i h1 h2 h3; cases h2
  · rfl
theorem lnO_c {l a b c : List UInt8} (hp : pieces3 l = [a, b, c]) (h : rnL (splitL 32 c) = none) : lnO l = none := by
  unfold lnO; rw [hp]; simp only [h]
  split
  · rename_i h1 h2 h3; cases h3
  · rfl
theorem lnO_h {l a b c : List UInt8} {hd : List Int} (hp : pieces3 l = [a, b, c]) (h : rnL (splitL 32 a) = some hd) (hl : ¬ hd.length = 3) : lnO l = none := by
  unfold lnO; rw [hp]; simp only [h]
  split
  · rename_i t m p y z h1 h2 h3
    obtain rfl := Option.some.inj h1
    exact absurd rfl hl
  · rfl
theorem lnO_yes {l a b c : List UInt8} {t m p : Int} {y z : List Int} (hp : pieces3 l = [a, b, c]) (h1 : rnL (splitL 32 a) = some [t, m, p]) (h2 : rnL (splitL 32 b) = some y) (h3 : rnL (splitL 32 c) = some z) : lnO l = some ⟨t, m, p, y, z⟩ := by
  unfold lnO; rw [hp]; simp only [h1, h2, h3]
theorem mem_sum {x : Nat} : ∀ {xs : List Nat}, x ∈ xs → x ≤ xs.sum
  | [], h => by cases h
  | y :: r, h => by
    rw [List.sum_cons]
    rcases List.mem_cons.1 h with rfl | h
    · omega
    · have := mem_sum h; omega
theorem pieces3_le (l : List UInt8) : ∀ p ∈ pieces3 l, p.length ≤ l.length := by
  intro p hp
  have h := join_pieces3 l
  cases hs : pieces3 l with
  | nil => rw [hs] at hp; cases hp
  | cons x r =>
    rw [hs] at h hp
    have h2 := congrArg List.length h
    rw [Lib.join_length] at h2
    have h3 : p.length ≤ Lib.lens (x :: r) := by
      unfold Lib.lens
      exact mem_sum (List.mem_map.2 ⟨p, hp, rfl⟩)
    omega
set_option maxRecDepth 100000 in
theorem linesOf_l (l : List UInt8) (w : World) (hl : l.length ≤ 1048576) (hS : Sen w) (hne : ¬ l = []) (h : l.getLast? = some 10) :
    Calls Tryd.prog 71 #[.string (str l)] w fun e w' => e = .returned (.tuple #[.slice (some ⟨w.heap.size, 0, none⟩) (splitL 10 l.dropLast).length (splitL 10 l.dropLast).length, .bool true]) ∧ Bk w' w.heap.size 9 ((splitL 10 l.dropLast).map fun p => Value.string (str p)).toArray ∧ Below w.heap.size w w' := by
  have hn1 : ¬ str l = { data := #[] } := fun e => hne (str_inj (b := []) e)
  have hn2 : ((str l).toList == ({ data := #[] } : ByteArray).toList) = false := by
    rw [beq_eq_false_iff_ne]
    intro e
    rw [ByteArray.toList_eq, ByteArray.toList_eq, str_toList] at e
    exact hne e
  have hn3 : ((str l).toList == []) = false := by
    rw [beq_eq_false_iff_ne]
    intro e
    rw [ByteArray.toList_eq, str_toList] at e
    exact hne e
  go_enter Tryd.func71, Tryd.ntmps71
  go_wp2_with fail
  (with_reducible refine (cutSuffix_yes l _ (by omega) h).mono ?_)
  rintro e w1 ⟨rfl, rfl⟩
  go_wp2_with fail
  (with_reducible refine (split_call 10 l.dropLast _ (by rw [List.length_dropLast]; omega) hS).mono ?_)
  rintro e w2 ⟨rfl, hk, hb⟩
  go_wp2
  go_ret2
  exact ⟨rfl, hk, hb⟩
set_option maxRecDepth 100000 in
theorem linesOf_no (l : List UInt8) (w : World) (hl : l.length ≤ 1048576) (hne : ¬ l = []) (h : ¬ l.getLast? = some 10) :
    Calls Tryd.prog 71 #[.string (str l)] w fun e w' => e = .returned (.tuple #[.slice none 0 0, .bool false]) ∧ w' = w := by
  have hn1 : ¬ str l = { data := #[] } := fun e => hne (str_inj (b := []) e)
  have hn2 : ((str l).toList == ({ data := #[] } : ByteArray).toList) = false := by
    rw [beq_eq_false_iff_ne]
    intro e
    rw [ByteArray.toList_eq, ByteArray.toList_eq, str_toList] at e
    exact hne e
  have hn3 : ((str l).toList == []) = false := by
    rw [beq_eq_false_iff_ne]
    intro e
    rw [ByteArray.toList_eq, str_toList] at e
    exact hne e
  go_enter Tryd.func71, Tryd.ntmps71
  go_wp2_with fail
  (with_reducible refine (cutSuffix_no l _ (by omega) h).mono ?_)
  rintro e w1 ⟨rfl, rfl⟩
  go_wp2_with fail
  go_ret2
  exact ⟨rfl, rfl⟩
set_option maxRecDepth 100000 in
theorem linesOf_nil (w : World) : Calls Tryd.prog 71 #[.string (str [])] w fun e w' => e = .returned (.tuple #[.slice none 0 0, .bool true]) ∧ w' = w := by
  have hst : str [] = { data := #[] } := rfl
  go_enter Tryd.func71, Tryd.ntmps71
  go_wp2_with fail
  go_ret2
  exact ⟨rfl, rfl⟩
set_option maxRecDepth 100000 in
set_option maxHeartbeats 8000000 in
theorem iParseLog_l (l : List UInt8) (w : World) (hl : l.length ≤ 1048576) (hS : Sen w) :
    Calls Tryd.prog 34 #[.string (str l)] w fun e w' => ∃ A c, e = .returned (.tuple #[.slice A (plL l).length c, .bool (plB l)]) ∧ OwnE w' w.heap.size w'.heap.size (.slice A (plL l).length c) (plL l) ∧ eszL (plL l) ≤ 1048576 ∧ Below w.heap.size w w' := by
  by_cases hne : l = []
  · subst hne
    have hp := pl_some (s := []) (es := []) rfl
    rw [hp.1, hp.2]
    go_enter Tryd.func34, Tryd.ntmps34
    go_wp2_with fail
    (with_reducible refine (linesOf_nil _).mono ?_)
    rintro e w1 ⟨rfl, rfl⟩
    go_wp2_with fail
    go_loopw [6, 25] (fun v i wr => v = .slice none 0 0 ∧ i = .int .i64 0 ∧ wr = w1) (fun _ i _ => 0)
    case atStart => exact ⟨rfl, rfl, rfl⟩
    case round =>
      obtain ⟨rfl, rfl, rfl⟩ := hrel
      go_wp2_with fail
      (with_reducible refine (checkedLog_v [] none 0 0 (l := 0) (h := 0) _ RdE.nil rfl (by rw [esz_nil]; omega) (Nat.le_refl _) true (by decide +kernel) [] rfl).mono ?_)
      rintro e w2 ⟨A2, c2, rfl, hcs, hb2⟩
      go_wp2
      go_ret2
      refine ⟨A2, c2, rfl, ?_, by rw [esz_nil]; omega, hb2⟩
      rcases hcs.out with ⟨_, hA, hc⟩ | ⟨hv, _⟩
      · rw [hA, hc]; exact OwnE.nil
      · cases hv
  · by_cases hla : l.getLast? = some 10
    · obtain ⟨Ls, hLs⟩ : ∃ Ls, splitL 10 l.dropLast = Ls := ⟨_, rfl⟩
      have hpl : Hid (∀ k (h : k < Ls.length), Ls[k].length ≤ 1048576) := Lib.hid (fun k h => by
        have := splitL_piece_le 10 l.dropLast Ls[k] (by rw [hLs]; exact List.getElem_mem h)
        rw [List.length_dropLast] at this
        omega)
      have hLl : Ls.length ≤ 1048577 := by
        rw [← hLs, splitL_length]
        have := List.count_le_length (a := (10 : UInt8)) (l := l.dropLast)
        rw [List.length_dropLast] at this
        omega
      have hlens : Lib.lens Ls ≤ 1048576 := by
        have := lens_split 10 l.dropLast
        rw [hLs, List.length_dropLast] at this
        omega
      have hps : Hid (∀ es, lnL Ls = some es → plS l = if logB es = true then some es else none) := Lib.hid (fun es h => by
        unfold plS; rw [if_neg hne, if_pos hla, hLs, h])
      have hpn : Hid (lnL Ls = none → plS l = none) := Lib.hid (fun h => by
        unfold plS; rw [if_neg hne, if_pos hla, hLs, h])
      have hlensH := Lib.hid hlens
      go_enter Tryd.func34, Tryd.ntmps34
      go_wp2_with fail
      (with_reducible refine (linesOf_l l _ hl hS hne hla).mono ?_)
      rintro e w1 ⟨rfl, bL, hb1⟩
      rw [hLs] at bL ⊢
      have s1 := hb1.size
      have hS1 := hS.st hb1
      have hgL := bL.lt
      have hb1H := Lib.hid hb1
      clear hne hla hlens hS hb1 hLs
      go_wp2_with fail
      go_loopw [6, 25] (fun v i wr => ∃ (k : Nat) (es : List Ent) (rows : List (List Value)), k ≤ Ls.length ∧ i = .int .i64 k ∧ es.length = k ∧ lnL (Ls.take k) = some es ∧ OwnR wr w1.heap.size wr.heap.size 74 5 v rows ∧ EntsOwn wr w1.heap.size wr.heap.size es rows ∧ Below w1.heap.size w1 wr) (fun _ i _ => Ls.length - (intOf i).toNat)
      case atStart => exact ⟨0, [], [], Nat.zero_le _, rfl, rfl, rfl, OwnR.nil, EntsOwn.nil, Below.refl _ _⟩
      case round =>
        obtain ⟨k, es, rows, hk, rfl, hesl, hln, hown, hen, hbr⟩ := hrel
        have hszr := hbr.size
        obtain ⟨Av, cv, rfl, hvc, hvm, -, -⟩ := hown.cells
        have hrl : rows.length = k := by rw [hen.len, hesl]
        have hrlH := Lib.hid hrl
        have hesH := Lib.hid hesl
        have hlnH := Lib.hid hln
        rw [hrl] at hown hvc ⊢
        clear hrl hesl hln
        by_cases hlt : k < Ls.length
        · have x0 : wr.cell? ⟨w.heap.size, k, none⟩ = some (.string (str Ls[k])) := by rw [(bL.st hbr).cell k]; simp [hlt]
          have hp1 := hpl.out k hlt
          have hSr := hS1.st hbr
          obtain ⟨L, hL⟩ : ∃ L, Ls[k] = L := ⟨_, rfl⟩
          have hbad : Hid (lnO L = none → plS l = none) := Lib.hid (fun h => hpn.out (lnL_bad hlt (by rw [hL]; exact h)))
          rw [hL] at x0 hp1
          go_wp2_with fail
          (with_reducible refine (split3_call L _ (by omega) hSr).mono ?_)
          rintro e w2 ⟨rfl, bP, hb2⟩
          have s2 := hb2.size
          have hB2 := hbr.trans (hb2.mono hszr)
          have hS2 := hSr.st hb2
          have hownH := Lib.hid (hown.st hb2)
          have henH := Lib.hid (hen.st hb2)
          obtain ⟨PC, hPC⟩ : ∃ PC, pieces3 L = PC := ⟨_, rfl⟩
          have hPl := pieces3_le L
          rw [hPC] at bP hPl ⊢
          clear x0 hSr hown hen
          by_cases h3 : PC.length = 3
          · obtain ⟨a, b, c, habc⟩ : ∃ a b c, PC = [a, b, c] := by
              match PC, h3 with
              | [a, b, c], _ => exact ⟨a, b, c, rfl⟩
            subst habc
            have la := hPl a (by simp)
            have lb := hPl b (by simp)
            have lc := hPl c (by simp)
            have z0 := bP.cell 0
            have z1 := bP.cell 1
            have z2 := bP.cell 2
            simp at z0 z1 z2
            have hgP := bP.lt
            have hbrH := Lib.hid hbr
            clear h3 hPl hb2 hbr
            go_wp2_with fail
            cases r0 : rnL (splitL 32 a) with
            | none =>
              (with_reducible refine (splitNumbers_none a 32 _ (by omega) hS2 r0).mono ?_)
              rintro e w3 ⟨rfl, hb3⟩
              have s3 := hb3.size
              have hB3 := hB2.trans (hb3.mono (by omega))
              have hS3 := hS2.st hb3
              have z1' := ((bcell hb3).1 _ _ (by omega)).trans z1
              have z2' := ((bcell hb3).1 _ _ (by omega)).trans z2
              go_wp2_with fail
              (with_reducible refine (splitNumbers_w b 32 _ (by omega) hS3).mono ?_)
              rintro e w4 ⟨A4, n4, c4, v4, rfl, hb4⟩
              have s4 := hb4.size
              have hB4 := hB3.trans (hb4.mono (by omega))
              have hS4 := hS3.st hb4
              have z2'' := ((bcell hb4).1 _ _ (by omega)).trans z2'
              go_wp2_with fail
              (with_reducible refine (splitNumbers_w c 32 _ (by omega) hS4).mono ?_)
              rintro e w5 ⟨A5, n5, c5, v5, rfl, hb5⟩
              have s5 := hb5.size
              have hB5 := hB4.trans (hb5.mono (by omega))
              have hS5 := hS4.st hb5
              have hno := Lib.hid (pl_none (hbad.out (lnO_a hPC r0)))
              have hB := Lib.hid (hb1H.out.trans (hB5.mono s1))
              clear hB5 bP
              go_wp2_with fail
              go_ret2
              rw [hno.out.1, hno.out.2]
              exact ⟨none, 0, rfl, OwnE.nil, by rw [esz_nil]; omega, hB.out⟩
            | some hd =>
              (with_reducible refine (splitNumbers_yes a 32 _ (by omega) hS2 hd r0).mono ?_)
              rintro e w3 ⟨A3, c3, rfl, ho3, hb3⟩
              have s3 := hb3.size
              have hB3 := hB2.trans (hb3.mono (by omega))
              have hS3 := hS2.st hb3
              have z1' := ((bcell hb3).1 _ _ (by omega)).trans z1
              have z2' := ((bcell hb3).1 _ _ (by omega)).trans z2
              go_wp2_with fail
              cases r1 : rnL (splitL 32 b) with
              | none =>
                (with_reducible refine (splitNumbers_none b 32 _ (by omega) hS3 r1).mono ?_)
                rintro e w4 ⟨rfl, hb4⟩
                have s4 := hb4.size
                have hB4 := hB3.trans (hb4.mono (by omega))
                have hS4 := hS3.st hb4
                have z2'' := ((bcell hb4).1 _ _ (by omega)).trans z2'
                go_wp2_with fail
                (with_reducible refine (splitNumbers_w c 32 _ (by omega) hS4).mono ?_)
                rintro e w5 ⟨A5, n5, c5, v5, rfl, hb5⟩
                have s5 := hb5.size
                have hB5 := hB4.trans (hb5.mono (by omega))
                have hS5 := hS4.st hb5
                have hno := Lib.hid (pl_none (hbad.out (lnO_b hPC r1)))
                have hB := Lib.hid (hb1H.out.trans (hB5.mono s1))
                clear hB5 bP
                go_wp2_with fail
                go_ret2
                rw [hno.out.1, hno.out.2]
                exact ⟨none, 0, rfl, OwnE.nil, by rw [esz_nil]; omega, hB.out⟩
              | some y =>
                (with_reducible refine (splitNumbers_yes b 32 _ (by omega) hS3 y r1).mono ?_)
                rintro e w4 ⟨A4, c4, rfl, ho4, hb4⟩
                have s4 := hb4.size
                have hB4 := hB3.trans (hb4.mono (by omega))
                have hS4 := hS3.st hb4
                have z2'' := ((bcell hb4).1 _ _ (by omega)).trans z2'
                go_wp2_with fail
                cases r2 : rnL (splitL 32 c) with
                | none =>
                  (with_reducible refine (splitNumbers_none c 32 _ (by omega) hS4 r2).mono ?_)
                  rintro e w5 ⟨rfl, hb5⟩
                  have s5 := hb5.size
                  have hB5 := hB4.trans (hb5.mono (by omega))
                  have hS5 := hS4.st hb5
                  have hno := Lib.hid (pl_none (hbad.out (lnO_c hPC r2)))
                  have hB := Lib.hid (hb1H.out.trans (hB5.mono s1))
                  clear hB5 bP
                  go_wp2_with fail
                  go_ret2
                  rw [hno.out.1, hno.out.2]
                  exact ⟨none, 0, rfl, OwnE.nil, by rw [esz_nil]; omega, hB.out⟩
                | some z =>
                  (with_reducible refine (splitNumbers_yes c 32 _ (by omega) hS4 z r2).mono ?_)
                  rintro e w5 ⟨A5, c5, rfl, ho5, hb5⟩
                  have s5 := hb5.size
                  have hB5 := hB4.trans (hb5.mono (by omega))
                  have hS5 := hS4.st hb5
                  by_cases h3 : hd.length = 3
                  · skip
                    obtain ⟨t, m, p, htmp⟩ : ∃ t m p, hd = [t, m, p] := by
                      match hd, h3 with
                      | [t, m, p], _ => exact ⟨t, m, p, rfl⟩
                    subst htmp
                    have hyes := Lib.hid (lnO_yes hPC r0 r1 r2)
                    have hsnoc := Lib.hid (lnL_snoc hlt hlnH.out (by rw [hL]; exact hyes.out))
                    obtain ⟨gh, ch', he, hh1, hh2, hh3, hhc, -⟩ := ho3.at_ (by simp)
                    obtain ⟨rfl, rfl⟩ : A3 = some ⟨gh, 0, none⟩ ∧ c3 = ch' := by injection he with e1 e2 e3; exact ⟨e1, e3⟩
                    have q0 := ((bcell hb5).1 _ _ (by omega)).trans (((bcell hb4).1 _ _ hh3).trans (hhc 0 (by simp)))
                    have q1 := ((bcell hb5).1 _ _ (by omega)).trans (((bcell hb4).1 _ _ hh3).trans (hhc 1 (by simp)))
                    have q2 := ((bcell hb5).1 _ _ (by omega)).trans (((bcell hb4).1 _ _ hh3).trans (hhc 2 (by simp)))
                    simp at q0 q1 q2
                    have hy5 := ho4.st hb5
                    have hrow : EntOwn w5 w3.heap.size w5.heap.size ⟨t, m, p, y, z⟩ [.int .i64 t, .int .i64 m, .int .i64 p, .slice A4 y.length c4, .slice A5 z.length c5] := ⟨_, _, rfl, hy5.mono (Nat.le_refl _) s5, ho5.mono s4 (Nat.le_refl _), Dj.of_lt hy5 ho5 (Nat.le_refl _)⟩
                    have hown5 := ((hownH.out.st hb3).st hb4).st hb5
                    have hen5 := ((henH.out.st hb3).st hb4).st hb5
                    have hdj : ∀ s ∈ rows, DjR s [.int .i64 t, .int .i64 m, .int .i64 p, .slice A4 y.length c4, .slice A5 z.length c5] := fun s hs => by
                      obtain ⟨e', he'⟩ := hen5.mem hs
                      exact he'.dj_lt hrow (by omega)
                    have ho35 := (ho3.st hb4).st hb5
                    have hgi : Hid (∀ cur, w5.heap[gh]? ≠ some (.cells cur 74 (0, 0))) := Lib.hid (fun cur hcur => ho35.ne_ent hcur (by simp [Value.ownBlock]))
                    have hrowH := Lib.hid hrow
                    have hdjH := Lib.hid hdj
                    have hown5H := Lib.hid hown5
                    have hen5H := Lib.hid hen5
                    have hB5H := Lib.hid hB5
                    have hcap3 : 3 ≤ c3 := by have := ho3.len.2; simpa using this
                    clear he hhc ho35 ho3 ho4 ho5 hb3 hb4 hb5 hy5 hrow hdj hown5 hen5 hownH henH h3 z0 z1 z2 z1' z2' z2'' bP hB2 hB3 hB4 hB5 hS2 hS3 hS4 hS5 hyes
                    go_wp2_with fail
                    go_region_held3 (fun w' => w'.cell? ⟨gh, 0, none⟩ = some (.int .i64 t) ∧ w'.cell? ⟨gh, 1, none⟩ = some (.int .i64 m) ∧ w'.cell? ⟨gh, 2, none⟩ = some (.int .i64 p))
                      (((try go_split_ands); (try dsimp only); (repeat' apply And.intro) <;> (first | assumption | ((refine (Below.cell (B := w5.heap.size) (w := w5) ?_ (by dsimp only; omega)).trans ?_) <;> first | assumption | (repeat first | exact Below.refl _ _ | refine Below.drew ?_ | refine Below.alloc ?_ (by first | omega | (simp <;> omega)) _)))))
                      (first
                        | (refine step_append_one (v := .slice Av k cv) rfl (.tmp 70) (.tmp 83) rfl rfl (by first | exact hown5H.out.alloc _ | exact (hown5H.out.alloc _).drew) rfl (row := [.int .i64 t, .int .i64 m, .int .i64 p, .slice A4 y.length c4, .slice A5 z.length c5]) (bk_cells (by first | exact Bk.new _ _ _ | exact (Bk.new _ _ _).drew)) rfl (by simp [Value.oneCell']) (by rw [hrlH.out]; omega) (by first | omega | (simp <;> omega)) ?_; intro v8 w8 ho8 hgx8 hb8 hat8;
                            (have j8 : ∀ o, w8.cell? ⟨gh, o, none⟩ = w5.cell? ⟨gh, o, none⟩ := fun o => (hgx8.cell_far ⟨gh, o, none⟩ (by simp <;> omega) (by intro e; obtain ⟨cur, hcur⟩ := hown5H.out.blockT _ e.symm; exact hgi.out cur hcur)).trans (World.cell?_alloc_lt w5 _ _ (by dsimp only; omega))); (have j80 := (j8 0).trans q0); (have j81 := (j8 1).trans q1); (have j82 := (j8 2).trans q2))
                        | fail)
                    have hOx := Lib.hid (show OwnR w8 w1.heap.size w8.heap.size 74 5 _ (rows ++ [[.int .i64 t, .int .i64 m, .int .i64 p, .slice A4 y.length c4, .slice A5 z.length c5]]) from ho8)
                    have hK := KeepI.grown (by first | exact hown5H.out.alloc _ | exact (hown5H.out.alloc _).drew) hgx8 (by decide)
                    have hent8 : EntsOwn w8 w1.heap.size w8.heap.size (es ++ [⟨t, m, p, y, z⟩]) (rows ++ [[.int .i64 t, .int .i64 m, .int .i64 p, .slice A4 y.length c4, .slice A5 z.length c5]]) := by
                      have s8 := hb8.size
                      simp at s8
                      exact ents_app (by first | exact hen5H.out.alloc _ | exact (hen5H.out.alloc _).keep (fun _ _ _ _ => rfl)) (by first | exact hrowH.out.keep (fun k _ _ h3 => Below.heap_alloc _ _ k h3)) hdjH.out hK (Nat.le_refl _) (by omega) (by omega) (by omega)
                    have hentH := Lib.hid hent8
                    have hBx : Below w1.heap.size w1 w8 := by first | exact ((hB5H.out.alloc (by omega) _).drew).trans hb8 | exact (hB5H.out.alloc (by omega) _).trans hb8
                    have hBxH := Lib.hid hBx
                    clear ho8 hgx8 hb8 hat8 hK hent8 hBx hown5H hen5H hB5H q0 q1 q2 j8 j80 j81 j82
                    go_wp2
                    go_roundw
                    case rel => exact ⟨k + 1, es ++ [⟨t, m, p, y, z⟩], _, by omega, by go_num, by simp [hesH.out], hsnoc.out, hOx.out, hentH.out, hBxH.out⟩
                    case measure => simp [intOf]; omega
                  · have hno := Lib.hid (pl_none (hbad.out (lnO_h hPC r0 h3)))
                    have hB := Lib.hid (hb1H.out.trans (hB5.mono s1))
                    clear hB5 bP
                    go_wp2_with fail
                    go_ret2
                    rw [hno.out.1, hno.out.2]
                    exact ⟨none, 0, rfl, OwnE.nil, by rw [esz_nil]; omega, hB.out⟩
          · have hno := Lib.hid (pl_none (hbad.out (lnO_len (by rw [hPC]; exact h3))))
            have hB := hb1H.out.trans (hB2.mono s1)
            clear hbr hb2 bP hPl
            go_wp2_with fail
            go_ret2
            rw [hno.out.1, hno.out.2]
            exact ⟨none, 0, rfl, OwnE.nil, by rw [esz_nil]; omega, hB⟩
        · obtain rfl : k = Ls.length := by omega
          rw [List.take_length] at hlnH
          have hpl2 := hps.out es hlnH.out
          have hsz : eszL es ≤ 1048576 := Nat.le_trans (ln_size hlnH.out) hlensH.out
          obtain ⟨v, hv⟩ : ∃ v, logB es = v := ⟨_, rfl⟩
          obtain ⟨R, hR⟩ : ∃ R, R = plL l := ⟨_, rfl⟩
          have hBv : plB l = v := by unfold plB; rw [hpl2, hv]; cases v <;> rfl
          have hLv : plL l = if v = true then es else [] := by unfold plL; rw [hpl2, hv]; cases v <;> rfl
          have hszR := Lib.hid (pl_size l hl)
          rw [← hR] at hLv hszR
          have hBvH := Lib.hid hBv
          have hRH := Lib.hid hR
          have hLvH := Lib.hid hLv
          have hvH := Lib.hid hv
          have hO := EntsOwn.ownE hown hen
          rw [← hesH.out] at hO
          have hrd := hO.rd'.std
          have hOH := Lib.hid hO
          have hbrH := Lib.hid (hb1H.out.trans (hbr.mono s1))
          have hbr2 := Lib.hid hbr
          clear hbr hown hen hBv hLv hv hpl2 hO hR
          go_wp2_with fail
          (with_reducible refine (checkedLog_v es Av Ls.length cv _ hrd hesH.out.symm hsz hvc _ hvH.out R hLvH.out).mono ?_)
          rintro e w6 ⟨A6, c6, rfl, hcs, hb6⟩
          have hB6 := Lib.hid (hbrH.out.trans (hb6.mono (Nat.le_trans s1 hszr)))
          have hO6 := Lib.hid ((hOH.out.st hb6).mono s1 hb6.size)
          clear hrd hb6
          go_wp2
          go_ret2
          rw [hBvH.out, ← hRH.out]
          refine ⟨A6, c6, rfl, ?_, hszR.out, hB6.out⟩
          have hRx := hLvH.out
          rcases hcs.out with ⟨hv, hA, hc⟩ | ⟨hv, hA, hc⟩
          · rw [if_pos hv] at hRx
            rw [hA, hc, hRx]
            exact hO6.out
          · rw [if_neg (by simp [hv])] at hRx
            rw [hA, hc, hRx]
            exact OwnE.nil
    · have hno := Lib.hid (pl_none (s := l) (by unfold plS; rw [if_neg hne, if_neg hla]))
      go_enter Tryd.func34, Tryd.ntmps34
      go_wp2_with fail
      (with_reducible refine (linesOf_no l _ hl hne hla).mono ?_)
      rintro e w1 ⟨rfl, rfl⟩
      go_wp2
      go_ret2
      rw [hno.out.1, hno.out.2]
      exact ⟨none, 0, rfl, OwnE.nil, by rw [esz_nil]; omega, Below.refl _ _⟩
end Go.Proofs.YtaoobcjannbnjaaDoor
