/-
  Contract of ParseLog in the reference. The condition is a bound on the text's length.
-/
import Derived.Test.YtjhbffndiaggmaaGreatDoorBL38
import Derived.Test.YtjhbffndiaggmaaGreatDoorBL41
namespace Go.Proofs.YtjhbffndiaggmaaGreatDoor
open Go.RowKit Go.ChangeShapes Go.WideShapes
set_option linter.unusedVariables false
set_option linter.unusedSimpArgs false

def lgK (P : List (List UInt8)) (k : Nat) : List Int := ((P.take k).filter fun p => !p.isEmpty).map l1R
theorem lgK_no {P : List (List UInt8)} {k : Nat} (h : k < P.length) (h1 : P[k] = []) : lgK P (k + 1) = lgK P k := by
  unfold lgK; rw [List.take_succ_eq_append_getElem h, List.filter_append, h1]; simp
theorem lgK_yes {P : List (List UInt8)} {k : Nat} (h : k < P.length) (h1 : ¬ P[k] = []) : lgK P (k + 1) = lgK P k ++ [l1R P[k]] := by
  unfold lgK
  rw [List.take_succ_eq_append_getElem h, List.filter_append, List.map_append]
  have : (!P[k].isEmpty) = true := by simpa using h1
  simp [this]
theorem lgK_len (P : List (List UInt8)) (k : Nat) : (lgK P k).length ≤ k := by
  unfold lgK
  rw [List.length_map]
  exact Nat.le_trans (List.length_filter_le _ _) (by rw [List.length_take]; omega)
theorem lgN_len (s : List UInt8) : (lgN s).length ≤ s.length + 1 := by
  unfold lgN
  rw [List.length_map]
  have h1 := List.length_filter_le (fun p : List UInt8 => !p.isEmpty) (splitL 32 s)
  have h2 := splitL_length 32 s
  have h3 := List.count_le_length (a := (32 : UInt8)) (l := s)
  omega
theorem rlO_size {l : List UInt8} {e : Ent} (h : rlO l = some e) : eW e ≤ l.length + 3 := by
  unfold rlO at h
  split at h
  · rename_i a b c hp
    split at h
    · rename_i t m p h1
      obtain rfl := Option.some.inj h
      have hj := join_splitL 58 l
      rw [hp] at hj
      have h2 := congrArg List.length hj
      rw [Lib.join_length] at h2
      simp [Lib.lens] at h2
      have h3 := lgN_len b
      have h4 := lgN_len c
      simp only [eW]
      omega
    · cases h
  · cases h
theorem rl_size : ∀ {ls : List (List UInt8)} {es : List Ent}, ls.map rlO = es.map some → eszL es ≤ Lib.lens ls + 3 * ls.length
  | [], [], _ => by simp [esz_nil]
  | [], e :: es, h => by simp at h
  | x :: ls, [], h => by simp at h
  | x :: ls, e :: es, h => by
    simp only [List.map_cons, List.cons.injEq] at h
    have h1 := rlO_size h.1
    have h2 := rl_size h.2
    rw [show e :: es = [e] ++ es from rfl, esz_append, esz_one]
    have h3 : Lib.lens (x :: ls) = x.length + Lib.lens ls := by simp [Lib.lens]
    rw [h3, List.length_cons]
    unfold eW at h1
    omega
theorem rl_snoc {ls : List (List UInt8)} {es : List Ent} {k : Nat} {e : Ent} (hk : k < ls.length) (h : (ls.take k).map rlO = es.map some) (h1 : rlO ls[k] = some e) : (ls.take (k + 1)).map rlO = (es ++ [e]).map some := by
  rw [List.take_succ_eq_append_getElem hk, List.map_append, h, List.map_append]
  simp [h1]
theorem rlO_len {l : List UInt8} (h : ¬ (splitL 58 l).length = 3) : rlO l = none := by
  unfold rlO
  split
  · rename_i a b c hp; rw [hp] at h; exact absurd rfl h
  · rfl
theorem rlO_h {l a b c : List UInt8} (hp : splitL 58 l = [a, b, c]) (hl : ¬ (lgN a).length = 3) : rlO l = none := by
  unfold rlO; rw [hp]
  simp only
  split
  · rename_i t m p h1; rw [h1] at hl; exact absurd rfl hl
  · rfl
theorem rlO_yes {l a b c : List UInt8} {t m p : Int} (hp : splitL 58 l = [a, b, c]) (h1 : lgN a = [t, m, p]) : rlO l = some ⟨t, m, p, lgN b, lgN c⟩ := by
  unfold rlO; rw [hp]
  simp only [h1]
theorem lgGood_x (es : List Ent) (A : Option Addr) (n c : Nat) {l h : Nat} (w : World) (hr : RdE w l h A es) (hn : n = es.length) (hl : eszL es ≤ 4194304) (hel : es.length ≤ 1048576) (v : Bool) (hv : logB es = v) :
    Calls Tryz.prog 128 #[.slice A n c] w fun e w' => e = .returned (.bool v) ∧ Below w.heap.size w w' := by
  subst hn hv
  exact lgGood_w es A c w hr hl hel
theorem lgText_x (es : List Ent) (A : Option Addr) (n c : Nat) {lo hi : Nat} (w : World) (hr0 : RdE w lo hi A es) (hn : n = es.length) (hg : logB es = true) (s : List UInt8) (hs : ltX es = s) :
    Calls Tryz.prog 129 #[.slice A n c] w fun e w' => e = .returned (.string (str s)) ∧ Below w.heap.size w w' := by
  subst hn hs
  exact lgText_any es A c w hr0 hg
set_option maxRecDepth 100000 in
set_option maxHeartbeats 4000000 in
theorem lgNumbers_l (s : List UInt8) (w : World) (hl : s.length ≤ 1048576) :
    Calls Tryz.prog 141 #[.string (str s)] w fun e w' => ∃ A c, e = .returned (.slice A (lgN s).length c) ∧ Own w' w.heap.size w'.heap.size (.slice A (lgN s).length c) (lgN s) ∧ Below w.heap.size w w' := by
  go_enter Tryz.func141, Tryz.ntmps141
  go_wp2_with fail
  (with_reducible refine (l1Split_n s 32 32 rfl _ (by omega)).mono ?_)
  rintro e w1 ⟨A1, c1, rfl, hx, hb1⟩
  obtain ⟨P, hP⟩ : ∃ P, splitL 32 s = P := ⟨_, rfl⟩
  have hne : P ≠ [] := by rw [← hP]; exact splitL_ne _ _
  have hPn : P.length ≤ s.length + 1 := by
    rw [← hP, splitL_length]
    have := List.count_le_length (a := (32 : UInt8)) (l := s)
    omega
  have hPl : Hid (∀ k (h : k < P.length), P[k].length ≤ 1048576) := Lib.hid (fun k h => by
    have := splitL_piece_le 32 s P[k] (by rw [hP]; exact List.getElem_mem h)
    omega)
  have hfin : Hid (lgN s = lgK P P.length) := Lib.hid (by unfold lgN lgK; rw [hP, List.take_length])
  rw [hP] at hx ⊢
  obtain ⟨hc, hm, hg⟩ := hx.out
  obtain ⟨gP, rfl, k1, k2, pc⟩ := hg (List.length_pos_iff.2 hne)
  have hpcH := Lib.hid pc
  have s1 := hb1.size
  have hb1H := Lib.hid hb1
  clear hx hg pc hP hne hb1
  go_wp2_with fail
  go_loopw [3, 9] (fun v i wr => ∃ k : Nat, k ≤ P.length ∧ i = .int .i64 k ∧ Own wr w1.heap.size wr.heap.size v (lgK P k) ∧ Below w1.heap.size w1 wr) (fun _ i _ => P.length - (intOf i).toNat)
  case atStart => exact ⟨0, Nat.zero_le _, rfl, Own.nil, Below.refl _ _⟩
  case round =>
    obtain ⟨k, hk, rfl, hown, hbr⟩ := hrel
    have hszr := hbr.size
    obtain ⟨Av, cv, rfl, -, -⟩ := hown.rd
    have hkl := lgK_len P k
    by_cases hlt : k < P.length
    · have x0 : wr.cell? ⟨gP, k, none⟩ = some (.string (str P[k])) := (hbr.cell (p := ⟨gP, k, none⟩) k2).trans (hpcH.out k hlt)
      have hpk := hPl.out k hlt
      obtain ⟨p, hp⟩ : ∃ p, P[k] = p := ⟨_, rfl⟩
      rw [hp] at x0 hpk
      by_cases he : p = []
      · have hst := Lib.hid (lgK_no hlt (by rw [hp]; exact he))
        have hsp : str p = { data := #[] } := by rw [he]; rfl
        rw [hsp] at x0
        have hoH := Lib.hid hown
        have hbH := Lib.hid hbr
        clear hown hbr hp he hsp hpk
        go_wp2_with fail
        go_roundw
        case rel => exact ⟨k + 1, by omega, by go_num, by rw [hst.out]; exact hoH.out, hbH.out⟩
        case measure => simp [intOf]; omega
      · have hst := Lib.hid (lgK_yes hlt (by rw [hp]; exact he))
        have hn1 : ¬ str p = { data := #[] } := fun e => he (str_inj (b := []) e)
        have hn2 : ((str p).toList == ({ data := #[] } : ByteArray).toList) = false := by
          rw [beq_eq_false_iff_ne]
          intro e
          rw [ByteArray.toList_eq, ByteArray.toList_eq, str_toList] at e
          exact he e
        have hn3 : ((str p).toList == []) = false := by
          rw [beq_eq_false_iff_ne]
          intro e
          rw [ByteArray.toList_eq, str_toList] at e
          exact he e
        rw [hp] at hst
        have hoH := Lib.hid hown
        have hbH := Lib.hid hbr
        have hklH := Lib.hid hkl
        clear hown hbr hp
        go_wp2_with fail
        (with_reducible refine (l1Read_any p _ hpk).mono ?_)
        rintro e w6 ⟨rfl, rfl⟩
        clear hn1 hn2 hn3 he x0
        go_wp2_with (at_builtin; refine wp_append_ints rfl (.tmp 15) (.tmp 18) rfl rfl (hoH.out.alloc _) (ys := [l1R p]) rfl ((Rd.one w6 _ _ _ rfl).mono (Nat.zero_le _) (by simp)) (by have := hklH.out; simp; omega) (by simp; omega) ?_; intro v3 w3 hown3 hg3 hb3 hat3)
        have hO3 := Lib.hid (show Own w3 w1.heap.size w3.heap.size v3 (lgK P (k + 1)) by rw [hst.out]; exact hown3)
        have hB3 := Lib.hid ((hbH.out.alloc (by omega) _).trans hb3)
        clear hown3 hg3 hb3 hat3
        go_roundw
        case rel => exact ⟨k + 1, by omega, by go_num, hO3.out, hB3.out⟩
        case measure => simp [intOf]; omega
    · obtain rfl : k = P.length := by omega
      have hB := Lib.hid (hb1H.out.trans (hbr.mono s1))
      have hoH := Lib.hid (hown.mono s1 (Nat.le_refl _))
      clear hown hbr
      go_wp2
      go_ret
      rw [hfin.out]
      exact ⟨Av, cv, rfl, hoH.out, hB.out⟩
set_option maxRecDepth 100000 in
set_option maxHeartbeats 8000000 in
theorem sParseLog_l (l : List UInt8) (w : World) (hl : l.length ≤ 1048576) :
    Calls Tryz.prog 69 #[.string (str l)] w fun e w' => ∃ A c, e = .returned (.tuple #[.slice A (plL l).length c, .bool (plB l)]) ∧ RdE w' 0 w'.heap.size A (plL l) ∧ eszL (plL l) ≤ 1048576 ∧ Below w.heap.size w w' := by
  obtain ⟨Ls, hLs⟩ : ∃ Ls, splitL 10 l = Ls := ⟨_, rfl⟩
  obtain ⟨m, hm⟩ : ∃ m, Ls.length = m + 1 := by
    cases hs : Ls with
    | nil => rw [hs] at hLs; exact absurd hLs (splitL_ne 10 l)
    | cons x r => exact ⟨r.length, rfl⟩
  have hplH : Hid (∀ k (h : k < Ls.length), Ls[k].length ≤ 1048576) := Lib.hid (fun k h => by
    have := splitL_piece_le 10 l Ls[k] (by rw [hLs]; exact List.getElem_mem h)
    omega)
  have hmm : m ≤ 1048577 := by
    have h1 := splitL_length 10 l
    rw [hLs] at h1
    have := List.count_le_length (a := (10 : UInt8)) (l := l)
    omega
  by_cases h31 : m ≤ 30
  · have hpsH : Hid (∀ es, Ls.dropLast.map rlO = es.map some → plS l = if logB es = true ∧ ltX es = l then some es else none) := Lib.hid (fun es h => pl_read (by rw [hLs]; exact h))
    have hbdH : Hid (∀ k (h : k + 1 < Ls.length), rlO (Ls[k]'(Nat.lt_of_succ_lt h)) = none → plS l = none) := Lib.hid (fun k h h1 => by
      refine pl_bad (k := k) (by rw [hLs]; exact h) ?_
      simp only [hLs]
      exact h1)
    have hlenH : Hid (Lib.lens Ls.dropLast ≤ 1048576) := Lib.hid (by
      have h1 := lens_split 10 l
      rw [hLs] at h1
      have h2 : Lib.lens Ls.dropLast ≤ Lib.lens Ls := by
        rw [List.dropLast_eq_take]
        exact Lib.lens_take_le _ _
      omega)
    have hszH := Lib.hid (pl_size l hl)
    go_enter Tryz.func69, Tryz.ntmps69
    go_wp2_with fail
    (with_reducible refine (l1Split_n l 10 10 rfl _ (by omega)).mono ?_)
    rintro e w1 ⟨A1, c1, rfl, hx, hb1⟩
    rw [hLs] at hx ⊢
    obtain ⟨hc, hcm, hg⟩ := hx.out
    obtain ⟨gL, rfl, k1, k2, pc⟩ := hg (by omega)
    have hpcH := Lib.hid pc
    have hmH := Lib.hid hm
    have s1 := hb1.size
    have hb1H := Lib.hid hb1
    rw [hm] at hc ⊢
    have hci : (m : Int) + 1 ≤ (c1 : Int) := by omega
    have hcj : (m : Int) ≤ (c1 : Int) := by omega
    have hm0 : (0 : Int) ≤ (m : Int) := by omega
    have hw1 : IntKind.i64.wrap ((m : Int) + 1 - 1) = (m : Int) := by rw [show (m : Int) + 1 - 1 = m by omega]; exact IntWalk.i64_in _ (by omega)
    have hw2 : wrap64 ((m : Int) + 1 - 1) = (m : Int) := by rw [show (m : Int) + 1 - 1 = m by omega]; exact IntWalk.wrap64_in _ (by omega)
    clear hx hg pc hLs hm hb1
    go_wp2_with fail
    go_loopw [5, 21] (fun v i wr => ∃ (k : Nat) (es : List Ent) (rows : List (List Value)), k ≤ m ∧ i = .int .i64 k ∧ es.length = k ∧ (Ls.dropLast.take k).map rlO = es.map some ∧ OwnR wr w1.heap.size wr.heap.size 74 5 v rows ∧ EntsOwn wr w1.heap.size wr.heap.size es rows ∧ Below w1.heap.size w1 wr) (fun _ i _ => m - (intOf i).toNat)
    case atStart => exact ⟨0, [], [], Nat.zero_le _, rfl, rfl, rfl, OwnR.nil, EntsOwn.nil, Below.refl _ _⟩
    case round =>
      obtain ⟨k, es, rows, hk, rfl, hesl, hln, hown, hen, hbr⟩ := hrel
      have hszr := hbr.size
      obtain ⟨Av, cv, rfl, hvc, hvm, -, -⟩ := hown.cells
      have hrl : rows.length = k := by rw [hen.len, hesl]
      have hrlH := Lib.hid hrl
      have hesH := Lib.hid hesl
      have hlnH := Lib.hid hln
      rw [hrl] at hown hvc ⊢
      clear hrl hesl hln
      by_cases hlt : k < m
      · have hkL : k < Ls.length := by rw [hmH.out]; omega
        have hkD : k < Ls.dropLast.length := by rw [List.length_dropLast, hmH.out]; omega
        have hDk : Ls.dropLast[k] = Ls[k] := by rw [List.getElem_dropLast]
        have x0 : wr.cell? ⟨gL, k, none⟩ = some (.string (str Ls[k])) := (hbr.cell (p := ⟨gL, k, none⟩) k2).trans (hpcH.out k hkL)
        have hp1 := hplH.out k hkL
        have hbad0 := hbdH.out k (by rw [hmH.out]; omega)
        obtain ⟨L, hL⟩ : ∃ L, Ls[k] = L := ⟨_, rfl⟩
        rw [hL] at x0 hp1 hbad0 hDk
        have hbad := Lib.hid hbad0
        have hDkH := Lib.hid hDk
        clear hbad0 hDk hL
        go_wp2_with fail
        (with_reducible refine (l1Split_n L 58 58 rfl _ (by omega)).mono ?_)
        rintro e w2 ⟨A2, c2, rfl, hx2, hb2⟩
        have s2 := hb2.size
        have hB2 := hbr.trans (hb2.mono hszr)
        have hownH := Lib.hid (hown.st hb2)
        have hown0 := Lib.hid hown
        have henH := Lib.hid (hen.st hb2)
        obtain ⟨PC, hPC⟩ : ∃ PC, splitL 58 L = PC := ⟨_, rfl⟩
        have hPl := fun p hp => splitL_piece_le 58 L p (by rw [hPC]; exact hp)
        rw [hPC] at hx2 ⊢
        have hbrH := Lib.hid hbr
        clear x0 hown hen hb2 hbr
        by_cases h3 : PC.length = 3
        · obtain ⟨a, b, c, habc⟩ : ∃ a b c, PC = [a, b, c] := by
            match PC, h3 with
            | [a, b, c], _ => exact ⟨a, b, c, rfl⟩
          subst habc
          have la := hPl a (by simp)
          have lb := hPl b (by simp)
          have lc := hPl c (by simp)
          obtain ⟨hc2, hm2, hg2⟩ := hx2.out
          obtain ⟨gP, rfl, j1, j2, pc2⟩ := hg2 (by simp)
          have z0 := pc2 0 (by simp)
          have z1 := pc2 1 (by simp)
          have z2 := pc2 2 (by simp)
          simp at z0 z1 z2
          clear h3 hPl hx2 hg2 pc2
          go_wp2_with fail
          (with_reducible refine (lgNumbers_l a _ (by omega)).mono ?_)
          rintro e w4 ⟨A4, c4, rfl, ho4, hb4⟩
          have s4 := hb4.size
          have hB4 := Lib.hid (hB2.trans (hb4.mono (by omega)))
          have z1' := ((bcell hb4).1 _ _ j2).trans z1
          have z2' := ((bcell hb4).1 _ _ j2).trans z2
          have hown4 := Lib.hid (hownH.out.st hb4)
          have hen4 := Lib.hid (henH.out.st hb4)
          obtain ⟨hd, hhd⟩ : ∃ hd, lgN a = hd := ⟨_, rfl⟩
          rw [hhd] at ho4 ⊢
          clear hB2 hownH henH z0 z1 z2 hb4
          by_cases h3 : hd.length = 3
          · obtain ⟨t, m', p, htmp⟩ : ∃ t m p, hd = [t, m, p] := by
              match hd, h3 with
              | [t, m, p], _ => exact ⟨t, m, p, rfl⟩
            subst htmp
            have hsnoc := Lib.hid (rl_snoc hkD hlnH.out (by rw [hDkH.out]; exact rlO_yes hPC hhd))
            obtain ⟨gh, ch', he, hh1, hh2, hh3, hhc, -⟩ := ho4.at_ (by simp)
            obtain ⟨rfl, rfl⟩ : A4 = some ⟨gh, 0, none⟩ ∧ c4 = ch' := by injection he with e1 e2 e3; exact ⟨e1, e3⟩
            have q0 := hhc 0 (by simp)
            have q1 := hhc 1 (by simp)
            have q2 := hhc 2 (by simp)
            simp at q0 q1 q2
            have hcap3 : 3 ≤ c4 := by have := ho4.len.2; simpa using this
            have hcap2 : 3 ≤ c2 := by simpa using hc2
            have hB0 : Below w4.heap.size w4 w4 := Below.refl _ _
            clear he hhc ho4 h3 hhd
            go_wp2_with fail
            go_region_held3 (fun w' => w'.cell? ⟨gh, 0, none⟩ = some (.int .i64 t) ∧ w'.cell? ⟨gh, 1, none⟩ = some (.int .i64 m') ∧ w'.cell? ⟨gh, 2, none⟩ = some (.int .i64 p) ∧ w'.cell? ⟨gP, 1, none⟩ = some (.string (str b)) ∧ w'.cell? ⟨gP, 2, none⟩ = some (.string (str c)))
              (((try go_split_ands); (try dsimp only); (repeat' apply And.intro) <;> (first | assumption | ((refine (Below.cell (B := w4.heap.size) (w := w4) ?_ (by dsimp only; omega)).trans ?_) <;> first | assumption | (repeat first | exact Below.refl _ _ | exact hBq6.out | exact hBq5.out | refine Below.drew ?_ | refine Below.alloc ?_ (by first | omega | (simp <;> omega)) _)))))
              (first
                | (go_at_call 141; ((with_reducible refine (lgNumbers_l b _ (by omega)).mono ?_); rintro e w5 ⟨A5, c5, rfl, ho5, hb5⟩; (have hBq5 : Hid (Below w4.heap.size w4 w5) := Lib.hid (hB0.drew.trans hb5)); (have s5 := hBq5.out.size)))
                | (go_at_call 141; ((with_reducible refine (lgNumbers_l c _ (by omega)).mono ?_); rintro e w6 ⟨A6, c6, rfl, ho6, hb6⟩; (have hBq6 : Hid (Below w4.heap.size w4 w6) := Lib.hid (hBq5.out.trans (hb6.mono s5))); (have s6 := hb6.size)))
                | (refine step_append_one (v := .slice Av k cv) rfl (.tmp 37) (.tmp 56) rfl rfl (by exact ((hown4.out.below (B := w4.heap.size) hBq6.out (.inr (Nat.le_refl _))).alloc _)) rfl (row := [.int .i64 t, .int .i64 m', .int .i64 p, .slice A5 (lgN b).length c5, .slice A6 (lgN c).length c6]) (bk_cells (by first | exact Bk.new _ _ _ | exact (Bk.new _ _ _).drew)) rfl (by simp [Value.oneCell']) (by rw [hrlH.out]; omega) (by first | omega | (simp <;> omega)) ?_; intro v8 w8 ho8 hgx8 hb8 hat8;
                    (have j8 : ∀ g o, wr.heap.size ≤ g → g < w4.heap.size → w8.cell? ⟨g, o, none⟩ = w4.cell? ⟨g, o, none⟩ := fun g o h1 h2 => (hgx8.cell_far ⟨g, o, none⟩ (by simp <;> omega) (by intro e; have hx9 : g < wr.heap.size := (hown0.out.lt _ e.symm).2.1; omega)).trans ((World.cell?_alloc_lt w6 _ _ (by dsimp only; omega)).trans (hBq6.out.cell (p := ⟨g, o, none⟩) h2)));
                    (have j80 := (j8 gh 0 (by omega) (by omega)).trans q0); (have j81 := (j8 gh 1 (by omega) (by omega)).trans q1); (have j82 := (j8 gh 2 (by omega) (by omega)).trans q2); (have j83 := (j8 gP 1 (by omega) (by omega)).trans z1'); (have j84 := (j8 gP 2 (by omega) (by omega)).trans z2'))
                | fail)
            have hOx := Lib.hid ho8
            have hown6 := hown4.out.below (B := w4.heap.size) hBq6.out (.inr (Nat.le_refl _))
            have hK := KeepI.grown (hown6.alloc _) hgx8 (by decide)
            have hen6 := (hen4.out.below hBq6.out (show wr.heap.size ≤ w4.heap.size by omega)).mono (Nat.le_refl w1.heap.size) (show wr.heap.size ≤ w6.heap.size by omega)
            have hy6 := ho5.st hb6
            have hrow : EntOwn w6 w4.heap.size w6.heap.size ⟨t, m', p, lgN b, lgN c⟩ [.int .i64 t, .int .i64 m', .int .i64 p, .slice A5 (lgN b).length c5, .slice A6 (lgN c).length c6] := ⟨_, _, rfl, hy6.mono (by simp) s6, ho6.mono s5 (Nat.le_refl _), Dj.of_lt hy6 ho6 (Nat.le_refl _)⟩
            have hdj : ∀ s ∈ rows, DjR s [.int .i64 t, .int .i64 m', .int .i64 p, .slice A5 (lgN b).length c5, .slice A6 (lgN c).length c6] := fun s hs => by
              obtain ⟨e', he'⟩ := (hen4.out.below hBq6.out (show wr.heap.size ≤ w4.heap.size by omega)).mem hs
              exact he'.dj_lt hrow (show wr.heap.size ≤ w4.heap.size by omega)
            have hent8 : EntsOwn w8 w1.heap.size w8.heap.size (es ++ [⟨t, m', p, lgN b, lgN c⟩]) (rows ++ [[.int .i64 t, .int .i64 m', .int .i64 p, .slice A5 (lgN b).length c5, .slice A6 (lgN c).length c6]]) := by
              have s8 := hb8.size
              simp at s8
              exact ents_app (hen6.alloc _) (hrow.keep (fun k _ _ h3 => Below.heap_alloc _ _ k h3)) hdj hK (Nat.le_refl _) (by omega) (by omega) (by omega)
            have hentH := Lib.hid hent8
            have hBxH := Lib.hid (((hB4.out.trans (hBq6.out.mono (by omega))).alloc (by omega) _).trans hb8)
            clear ho8 hgx8 hb8 hat8 hK hent8 hown6 hen6 hy6 hrow hdj ho5 ho6 hb5 hb6 hB0 q0 q1 q2 z1' z2' j8 j80 j81 j82 j83 j84
            go_wp2
            go_roundw
            case rel => exact ⟨k + 1, es ++ [⟨t, m', p, lgN b, lgN c⟩], _, by omega, by go_num, by simp [hesH.out], hsnoc.out, hOx.out, hentH.out, hBxH.out⟩
            case measure => simp [intOf]; omega
          · have hno := Lib.hid (pl_none (hbad.out (rlO_h hPC (by rw [hhd]; exact h3))))
            have hB := Lib.hid (hb1H.out.trans (hB4.out.mono s1))
            clear hown4 hen4 ho4 z1' z2'
            go_wp2_with fail
            go_ret2
            rw [hno.out.1, hno.out.2]
            exact ⟨none, 0, rfl, RdE.nil, by rw [esz_nil]; omega, hB.out⟩
        · have hno := Lib.hid (pl_none (hbad.out (rlO_len (by rw [hPC]; exact h3))))
          have hB := Lib.hid (hb1H.out.trans (hB2.mono s1))
          clear hB2 hx2 hPl
          go_wp2_with fail
          go_ret2
          rw [hno.out.1, hno.out.2]
          exact ⟨none, 0, rfl, RdE.nil, by rw [esz_nil]; omega, hB.out⟩
      · obtain rfl : k = m := by omega
        have hDl : Ls.dropLast.length = k := by rw [List.length_dropLast, hmH.out]; omega
        have hall := hlnH.out
        rw [List.take_of_length_le (by omega)] at hall
        have hpl2 := hpsH.out es hall
        have hsz : eszL es ≤ 4194304 := by
          have h1 := rl_size hall
          have h2 := hlenH.out
          omega
        have hel : es.length ≤ 1048576 := by rw [hesH.out]; omega
        have hpl2H := Lib.hid hpl2
        have hO := EntsOwn.ownE hown hen
        have hrd := hO.rd'
        have hBH := Lib.hid (hb1H.out.trans (hbr.mono s1))
        clear hbr hown hen hpl2 hO hDl hall
        go_wp2_with fail
        cases hk2 : logB es with
        | false =>
          have hno := Lib.hid (pl_none (s := l) (by rw [hpl2H.out]; simp [hk2]))
          (with_reducible refine (lgGood_x es Av k cv _ hrd hesH.out.symm hsz hel _ hk2).mono ?_)
          rintro e w6 ⟨rfl, hb6⟩
          have hB6 := hBH.out.trans (hb6.mono (by omega))
          go_wp2
          go_ret2
          rw [hno.out.1, hno.out.2]
          exact ⟨none, 0, rfl, RdE.nil, by rw [esz_nil]; omega, hB6⟩
        | true =>
          (with_reducible refine (lgGood_x es Av k cv _ hrd hesH.out.symm hsz hel _ hk2).mono ?_)
          rintro e w6 ⟨rfl, hb6⟩
          have s6 := hb6.size
          have hB6 := hBH.out.trans (hb6.mono (by omega))
          have hrd6 := hrd.st hb6
          clear hb6 hrd
          go_wp2_with fail
          by_cases heq : ltX es = l
          · have hyes := Lib.hid (pl_some (s := l) (es := es) (by rw [hpl2H.out, if_pos ⟨hk2, heq⟩]))
            (with_reducible refine (lgText_x es Av k cv _ hrd6 hesH.out.symm hk2 l heq).mono ?_)
            rintro e w7 ⟨rfl, hb7⟩
            have hB7 := Lib.hid (hB6.trans (hb7.mono (by omega)))
            have hrd7 := Lib.hid ((hrd6.st hb7).std)
            clear hb7 hrd6
            go_wp2_with fail
            go_ret2
            rw [hyes.out.1, hyes.out.2, hesH.out]
            exact ⟨Av, cv, rfl, hrd7.out, by have := hszH.out; rwa [hyes.out.2] at this, hB7.out⟩
          · have hno := Lib.hid (pl_none (s := l) (by rw [hpl2H.out, if_neg (fun h => heq h.2)]))
            have hne : ¬ str (ltX es) = str l := fun e => heq (str_inj e)
            have hne2 : ((str (ltX es)).toList == (str l).toList) = false := by
              rw [beq_eq_false_iff_ne]
              intro e
              rw [ByteArray.toList_eq, ByteArray.toList_eq, str_toList, str_toList] at e
              exact heq e
            (with_reducible refine (lgText_x es Av k cv _ hrd6 hesH.out.symm hk2 _ rfl).mono ?_)
            rintro e w7 ⟨rfl, hb7⟩
            have hB7 := Lib.hid (hB6.trans (hb7.mono (by omega)))
            clear hb7 hrd6 heq
            go_wp2_with fail
            go_ret2
            rw [hno.out.1, hno.out.2]
            exact ⟨none, 0, rfl, RdE.nil, by rw [esz_nil]; omega, hB7.out⟩
  · have hno := Lib.hid (pl_none (s := l) (pl_many (by rw [hLs]; omega)))
    go_enter Tryz.func69, Tryz.ntmps69
    go_wp2_with fail
    (with_reducible refine (l1Split_n l 10 10 rfl _ (by omega)).mono ?_)
    rintro e w1 ⟨A1, c1, rfl, hx, hb1⟩
    rw [hLs, hm]
    have hgt : (31 : Int) < (m : Int) + 1 := by omega
    clear hx
    go_wp2_with fail
    go_ret2
    rw [hno.out.1, hno.out.2]
    exact ⟨none, 0, rfl, RdE.nil, by rw [esz_nil]; omega, hb1⟩
end Go.Proofs.YtjhbffndiaggmaaGreatDoor
