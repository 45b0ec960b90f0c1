/-
  Contract of ParseSecret in the reference. The condition is a bound on the text's length.
-/
import Derived.Test.YtjhbffndiaggmaaGreatDoorBSS40
import Derived.Test.YtjhbffndiaggmaaGreatDoorZSSPse
namespace Go.Proofs.YtjhbffndiaggmaaGreatDoor
open Go.RowKit Go.ChangeShapes Go.WideShapes
set_option linter.unusedVariables false
set_option linter.unusedSimpArgs false

/-- the same of the reference -/
def PsRd (y z : List Int) (b : Bool) (w : World) (e : Ending) (w' : World) : Prop :=
  ∃ A c B d, e = .returned (.tuple #[.agg #[.slice A y.length c, .slice B z.length d], .bool b]) ∧ Rd w' 0 w'.heap.size A y ∧ Rd w' 0 w'.heap.size B z ∧ y.length ≤ 1048576 ∧ z.length ≤ 1048576 ∧ Below w.heap.size w w'
theorem PsRd.no {b b' : Bool} {w w' : World} {e : Ending} (he : e = .returned (.tuple #[.agg #[.slice none 0 0, .slice none 0 0], .bool b'])) (hb : b' = b) (hB : Below w.heap.size w w') : PsRd [] [] b w e w' :=
  ⟨none, 0, none, 0, by rw [he, hb]; rfl, Rd.nil, Rd.nil, by simp, by simp, hB⟩
theorem scGood_n (y1 : List Int) (A1 : Option Addr) (n1 c1 : Nat) (z1 : List Int) (B1 : Option Addr) (m1 d1 : Nat) {l h l' h' : Nat} (w : World) (hr1 : Rd w l h A1 y1) (hr2 : Rd w l' h' B1 z1) (hn : n1 = y1.length) (hm : m1 = z1.length) (hl1 : y1.length ≤ 1048576) (hl2 : z1.length ≤ 1048576) (hcap : n1 ≤ c1) (v : Bool) (hv : scB y1 z1 = v) :
    Calls Tryz.prog 117 #[.agg #[.slice A1 n1 c1, .slice B1 m1 d1]] w fun e w' => e = .returned (.bool v) ∧ Below w.heap.size w w' := by
  subst hn hm; exact scGood_wt y1 A1 c1 z1 B1 d1 w hr1 hr2 hl1 hl2 hcap v hv
theorem scText_n (y : List Int) (A : Option Addr) (n c : Nat) (z : List Int) (B : Option Addr) (m d : Nat) {lo hi lo' hi' : Nat} (w : World) (hr0 : Rd w lo hi A y) (hz0 : Rd w lo' hi' B z) (hn : n = y.length) (hm : m = z.length) (hl : y.length ≤ 1048576) (hg : scB y z = true) (s : List UInt8) (hs : sb y z = s) :
    Calls Tryz.prog 121 #[.agg #[.slice A n c, .slice B m d]] w fun e w' => e = .returned (.string (str s)) ∧ Below w.heap.size w w' := by
  subst hn hm hs; exact scText_any y z A c B d w hr0 hz0 hl hg
set_option maxRecDepth 100000 in
set_option maxHeartbeats 8000000 in
theorem sParseSecret_l (l : List UInt8) (w : World) (hl : l.length ≤ 1048576) :
    Calls Tryz.prog 43 #[.string (str l)] w (PsRd (psP l) (psL l) (psB l) w) := by
  obtain ⟨ZB, hZB⟩ : ∃ ZB, ZB = Obj.cells #[.slice none 0 0, .slice none 0 0] 53 (0, 0) := ⟨_, rfl⟩
  have bZ0 : Bk (w.alloc ZB) w.heap.size 53 #[.slice none 0 0, .slice none 0 0] := by rw [hZB]; exact Bk.new w _ _
  have hs0 : (w.alloc ZB).heap.size = w.heap.size + 1 := by simp
  have hBa := (Below.refl w.heap.size w).alloc (Nat.le_refl _) ZB
  by_cases h2 : (splitL 58 l).length = 2
  · skip
    obtain ⟨a, r, har⟩ : ∃ a r, splitL 58 l = [a, r] := by
      match hm : splitL 58 l, h2 with
      | [a, r], _ => exact ⟨a, r, rfl⟩
    have hlar : a.length + r.length + 1 = l.length := by
      have h := join_splitL 58 l
      rw [har] at h
      rw [← h, Lib.join_cons]
      simp [Lib.joinTail]
      omega
    clear h2
    have hps0 := ps_read har
    obtain ⟨U, hUe0⟩ : ∃ U, l1L 43 a = U := ⟨_, rfl⟩
    obtain ⟨V, hVe0⟩ : ∃ V, l1L 32 r = V := ⟨_, rfl⟩
    have l1l : ∀ (b : UInt8) (s : List UInt8), (l1L b s).length ≤ s.length + 1 := fun b s => by
      unfold l1L
      split
      · simp
      · rw [List.length_map, splitL_length]
        have := List.count_le_length (a := b) (l := s)
        omega
    have lU2 : U.length ≤ 1048576 := by have := l1l 43 a; rw [hUe0] at this; omega
    have lV2 : V.length ≤ 1048576 := by have := l1l 32 r; rw [hVe0] at this; omega
    rw [hUe0, hVe0] at hps0
    have hps := Lib.hid hps0
    have hUe := Lib.hid hUe0
    have hVe := Lib.hid hVe0
    clear hps0 hUe0 hVe0 l1l
    go_enter Tryz.func43, Tryz.ntmps43
    go_wp2_with fail
    rw [← hZB]
    (with_reducible refine (l1Split_n l 58 58 rfl _ (by omega)).mono ?_)
    rintro e w1 ⟨A1, c1, rfl, hx1, hb1⟩
    have s1 : w.heap.size + 1 ≤ w1.heap.size := by have := hb1.size; omega
    have hB1 := Lib.hid (hBa.trans (hb1.mono (by omega)))
    have bZ1 := bZ0.st hb1
    rw [hs0] at hx1
    obtain ⟨W, hW⟩ : ∃ W, splitL 58 l = W := ⟨_, rfl⟩
    rw [hW] at hx1 ⊢
    clear hb1 bZ0 hBa hs0
    rw [har] at hW
    subst hW
    obtain ⟨hc1, hm1, hg1⟩ := hx1.out
    obtain ⟨g1, rfl, k1, k2, hcl⟩ := hg1 (by simp)
    have x0 := hcl 0 (by simp)
    have x1 := hcl 1 (by simp)
    simp at x0 x1
    obtain ⟨W2, hW2⟩ : ∃ W2, W2 = w1.alloc (.cells #[.slice none 0 0, .slice none 0 0] 53) := ⟨_, rfl⟩
    have bx2 : Bk W2 w1.heap.size 53 #[.slice none 0 0, .slice none 0 0] := by rw [hW2]; exact Bk.new w1 _ _
    have hG2 : Below w1.heap.size w1 W2 := by rw [hW2]; exact (Below.refl _ _).alloc (Nat.le_refl _) _
    have s2 : W2.heap.size = w1.heap.size + 1 := by rw [hW2]; simp
    have v0 := (hG2.cell (p := ⟨g1, 0, none⟩) k2).trans x0
    have v1 := (hG2.cell (p := ⟨g1, 1, none⟩) k2).trans x1
    clear hx1 hg1 hcl
    have bx := bx2
    have hG := hG2
    clear bx2 hG2
    by_cases hae : a = []
    · have hU0 : U = [] := by rw [← hUe.out, hae]; rfl
      have ha0 : str a = { data := #[] } := by rw [hae]; rfl
      have hou : Own W2 (w1.heap.size + 1) W2.heap.size (.slice none 0 0) U := by rw [hU0]; exact Own.nil
      have nU : Hid (0 = U.length) := Lib.hid (by rw [hU0]; rfl)
      clear hU0
      obtain ⟨lU, hlU⟩ : ∃ x, x = w1.heap.size + 1 := ⟨_, rfl⟩
      obtain ⟨hU, hhU⟩ : ∃ x, x = W2.heap.size := ⟨_, rfl⟩
      rw [← hlU, ← hhU] at hou
      rw [ha0] at v0 x0
      by_cases hre : r = []
      · have hV0 : V = [] := by rw [← hVe.out, hre]; rfl
        have hr0 : str r = { data := #[] } := by rw [hre]; rfl
        have rdU := hou.rd'
        have capU := hou.len.2
        have rdV : Rd W2 (w1.heap.size + 1) W2.heap.size none V := by rw [hV0]; exact Rd.nil
        have nV : Hid (0 = V.length) := Lib.hid (by rw [hV0]; rfl)
        clear hV0
        rw [hr0] at v1
        rw [hr0] at x1
        have y0 := bx.cell 0
        have y1 := bx.cell 1
        have hgl := bx.lt
        simp at y0 y1
        have hBx := hB1.out.trans (hG.mono (by omega))
        have bZx := bZ1.st hG
        clear hG
        go_wp2_with fail
        rw [← hW2]
        clear hW2 x0 x1 v0
        cases hk : scB U V with
        | false =>
          have hno := Lib.hid (ps_none (s := l) (by rw [hps.out]; simp [hk]))
          (with_reducible refine (scGood_n U none 0 0 V none 0 0 _ rdU rdV nU.out nV.out lU2 lV2 capU _ hk).mono ?_)
          rintro e w6 ⟨rfl, hb6⟩
          have hB6 := Lib.hid (hBx.trans (hb6.mono (by omega)))
          have bZ := bZx.st hb6
          have s6 := hb6.size
          clear hb6 bZx bx y0 y1 rdU rdV
          have t0 := bZ.cell 0
          have t1 := bZ.cell 1
          have f0 := bZ.frozen 0
          have f1 := bZ.frozen 1
          simp at t0 t1
          clear bZ
          go_wp2_with fail
          refine bodyPost_ret (v := .tuple #[.agg #[.slice none 0 0, .slice none 0 0], .bool false]) (by simp [results, Tryz.results43, go_sem, t0, t1]) rfl ?_
          rw [hno.out.1, hno.out.2.1, hno.out.2.2]
          exact PsRd.no rfl rfl ((hB6.out.setCell (by dsimp only; omega) _).setCell (by dsimp only; omega) _)
        | true =>
          (with_reducible refine (scGood_n U none 0 0 V none 0 0 _ rdU rdV nU.out nV.out lU2 lV2 capU _ hk).mono ?_)
          rintro e w6 ⟨rfl, hb6⟩
          have hB6 := hBx.trans (hb6.mono (by omega))
          have s6 := hb6.size
          have bZ6 := bZx.st hb6
          have bx6 := bx.st hb6
          have rdU6 := rdU.st hb6
          have rdV6 := rdV.st hb6
          clear hb6 bZx bx y0 y1 rdU rdV
          have v0 := bx6.cell 0
          have v1 := bx6.cell 1
          have hgl6 := bx6.lt
          simp at v0 v1
          go_wp2_with fail
          by_cases heq : sb U V = l
          · have hyes := Lib.hid (ps_some (s := l) (y := U) (z := V) (by rw [hps.out, if_pos ⟨hk, heq⟩]))
            (with_reducible refine (scText_n U none 0 0 V none 0 0 _ rdU6 rdV6 nU.out nV.out lU2 hk l heq).mono ?_)
            rintro e w7 ⟨rfl, hb7⟩
            have s7 := hb7.size
            have hB7 := Lib.hid (hB6.trans (hb7.mono (by omega)))
            have bZ := bZ6.st hb7
            have bx7 := bx6.st hb7
            have rdU7 := rdU6.st hb7
            have rdV7 := rdV6.st hb7
            clear v0 v1 hb7 bZ6 bx6 rdU6 rdV6
            have v0 := bx7.cell 0
            have v1 := bx7.cell 1
            have t0 := bZ.cell 0
            have t1 := bZ.cell 1
            have f0 := bZ.frozen 0
            have f1 := bZ.frozen 1
            have ql := bZ.lt
            simp at v0 v1 t0 t1
            have hsetc : ∀ b o, w.heap.size < b → ((w7.setCell ⟨w.heap.size, 0, none⟩ (.slice none 0 0)).setCell ⟨w.heap.size, 1, none⟩ (.slice none 0 0)).cell? ⟨b, o, none⟩ = w7.cell? ⟨b, o, none⟩ := fun b o h1 => by
              rw [World.cell?_setCell_other _ _ _ _ (by intro e; injection e with e1; omega), World.cell?_setCell_other _ _ _ _ (by intro e; injection e with e1; omega)]
            have hUH := Lib.hid ((rdU7.keep (w' := (w7.setCell ⟨w.heap.size, 0, none⟩ (.slice none 0 0)).setCell ⟨w.heap.size, 1, none⟩ (.slice none 0 0)) (fun b o h1 h2 h3 => hsetc b o (by omega))).std)
            have hVH := Lib.hid ((rdV7.keep (w' := (w7.setCell ⟨w.heap.size, 0, none⟩ (.slice none 0 0)).setCell ⟨w.heap.size, 1, none⟩ (.slice none 0 0)) (fun b o h1 h2 h3 => hsetc b o (by omega))).std)
            clear bx7 bZ rdU7 rdV7 hsetc
            go_wp2_with fail
            refine bodyPost_ret (v := .tuple #[.agg #[.slice none 0 0, .slice none 0 0], .bool true]) (by simp [results, Tryz.results43, go_sem, t0, t1]) rfl ?_
            rw [hyes.out.1, hyes.out.2.1, hyes.out.2.2]
            exact ⟨none, 0, none, 0, by rw [← nU.out, ← nV.out], hUH.out, hVH.out, lU2, lV2, (hB7.out.setCell (by dsimp only; omega) _).setCell (by dsimp only; omega) _⟩
          · have hno := Lib.hid (ps_none (s := l) (by rw [hps.out, if_neg (fun h => heq h.2)]))
            have hne : ¬ str (sb U V) = str l := fun e => heq (str_inj e)
            have hne2 : ((str (sb U V)).toList == (str l).toList) = false := by
              rw [beq_eq_false_iff_ne]
              intro e
              rw [ByteArray.toList_eq, ByteArray.toList_eq, str_toList, str_toList] at e
              exact heq e
            (with_reducible refine (scText_n U none 0 0 V none 0 0 _ rdU6 rdV6 nU.out nV.out lU2 hk _ rfl).mono ?_)
            rintro e w7 ⟨rfl, hb7⟩
            have s7 := hb7.size
            have hB7 := Lib.hid (hB6.trans (hb7.mono (by omega)))
            have bZ := bZ6.st hb7
            clear v0 v1 hb7 bZ6 bx6 rdU6 rdV6 heq
            have t0 := bZ.cell 0
            have t1 := bZ.cell 1
            have f0 := bZ.frozen 0
            have f1 := bZ.frozen 1
            simp at t0 t1
            clear bZ
            go_wp2_with fail
            refine bodyPost_ret (v := .tuple #[.agg #[.slice none 0 0, .slice none 0 0], .bool false]) (by simp [results, Tryz.results43, go_sem, t0, t1]) rfl ?_
            rw [hno.out.1, hno.out.2.1, hno.out.2.2]
            exact PsRd.no rfl rfl ((hB7.out.setCell (by dsimp only; omega) _).setCell (by dsimp only; omega) _)
      · have hrn : ¬ str r = { data := #[] } := fun e => hre (str_inj (b := []) e)
        have hrn2 : ((str r).toList == ({ data := #[] } : ByteArray).toList) = false := by
          rw [beq_eq_false_iff_ne]
          intro e
          rw [ByteArray.toList_eq, ByteArray.toList_eq, str_toList] at e
          exact hre e
        have hrn3 : ((str r).toList == []) = false := by
          rw [beq_eq_false_iff_ne]
          intro e
          rw [ByteArray.toList_eq, str_toList] at e
          exact hre e
        have hrn4 : ¬ r = [] := hre
        go_wp2_with fail
        rw [← hW2]
        clear hW2 x0 x1 v0
        (with_reducible refine (l1Split_n r 32 32 rfl _ (by omega)).mono ?_)
        rintro e w5 ⟨AQ0, cQ0, rfl, hxQ, hbQ⟩
        obtain ⟨Q, hQ⟩ : ∃ P, splitL 32 r = P := ⟨_, rfl⟩
        rw [hQ] at hxQ ⊢
        have hneQ : Q ≠ [] := by rw [← hQ]; exact splitL_ne _ _
        have hnQ : Q.length ≤ r.length + 1 := by
          rw [← hQ, splitL_length]
          have := List.count_le_length (a := (32 : UInt8)) (l := r)
          omega
        have hlQ : Hid (∀ k (h : k < Q.length), Q[k].length ≤ 1048576) := Lib.hid (fun k h => by
          have := splitL_piece_le 32 r Q[k] (by rw [hQ]; exact List.getElem_mem h)
          omega)
        obtain ⟨hcQ, hmQ, hgQ⟩ := hxQ.out
        obtain ⟨gQ, rfl, k1Q, k2Q, pcQ⟩ := hgQ (List.length_pos_iff.2 hneQ)
        have sQ := hbQ.size
        have bxQ := bx.st hbQ
        have hGQ := hG.trans (hbQ.mono (by omega))
        have hoQ := hou.st hbQ
        clear hxQ hgQ hbQ bx hG hou
        go_wp2_with fail
        go_loopw [47] (fun i wr => ∃ (k : Nat) (A : Option Addr) (c : Nat), k ≤ Q.length ∧ i = .int .i64 k ∧ Bk wr w1.heap.size 53 #[.slice none 0 0, .slice A k c] ∧ Own wr w5.heap.size wr.heap.size (.slice A k c) ((Q.take k).map l1R) ∧ Below w1.heap.size w1 wr ∧ Hid (∀ j (h : j < Q.length), wr.cell? ⟨gQ, j, none⟩ = some (.string (str Q[j]))) ∧ w5.heap.size ≤ wr.heap.size ∧ Own wr lU hU (.slice none 0 0) U) (fun i _ => Q.length - (intOf i).toNat)
        case atStart => exact ⟨0, none, 0, Nat.zero_le _, rfl, bxQ, Own.nil, hGQ, Lib.hid pcQ, Nat.le_refl _, hoQ⟩
        case round =>
          obtain ⟨k, A, c, hk, rfl, bkr, ownr, hbr, pcr, hwl, hou⟩ := hrel
          have y2 := bkr.cell 1
          have f2 := bkr.frozen 1
          have hgl := bkr.lt
          simp at y2
          by_cases hlt : k < Q.length
          · have x0 : wr.cell? ⟨gQ, k, none⟩ = some (.string (str Q[k])) := pcr.out k hlt
            have hpk := hlQ.out k hlt
            have hlkH := Lib.hid (show ((Q.take k).map l1R).length = k by rw [List.length_map, List.length_take]; omega)
            have hsnH := Lib.hid (show (Q.take k).map l1R ++ [l1R Q[k]] = (Q.take (k + 1)).map l1R by rw [List.take_succ_eq_append_getElem hlt, List.map_append]; rfl)
            go_wp2_with fail
            go_region_law (first
              | (refine step_append_ints rfl (.tmp 52) (.tmp 55) rfl (v := .slice A k c) rfl (by first | exact ownr.alloc _ | exact (ownr.alloc _).drew) (ys := [l1R Q[k]]) rfl (by first | exact (Rd.one wr _ _ _ rfl).mono (Nat.zero_le _) (by simp) | exact ((Rd.one wr _ _ _ rfl).drew).mono (Nat.zero_le _) (by simp)) (by rw [hlkH.out]; simp; omega) (by first | omega | (simp <;> omega)) ?_; intro v8 w8 ho8 hg8 hb8 hat8; (obtain ⟨A8, c8, rfl, -, -⟩ := ho8.rd); (rw [hsnH.out] at ho8);
                  (have bk8 := (show Bk _ w1.heap.size 53 #[.slice none 0 0, .slice A k c] from by first | exact (bkr.alloc _).below hb8 (by omega) | exact ((bkr.alloc _).drew).below hb8 (by omega)));
                  (have y8 := bk8.cell 1); (have f8 := bk8.frozen 1); (simp at y8))
              | (go_simp; (go_at_call 106; ((with_reducible refine (l1Read_any Q[k] _ hpk).mono ?_); rintro e w6 ⟨rfl, rfl⟩))))
            all_goals
              have hl8 : ((Q.take (k + 1)).map l1R).length = k + 1 := by rw [List.length_map, List.length_take]; omega
              rw [hl8] at ho8
              have hbkH : Hid (Bk (w8.setCell ⟨w1.heap.size, 1, none⟩ (.slice A8 (k + 1) c8)) w1.heap.size 53 #[.slice none 0 0, .slice A8 (k + 1) c8]) := Lib.hid (by simpa using bk8.set_ 1 (.slice A8 (k + 1) c8))
              have hoH := Lib.hid ((ho8.setCell (p := ⟨w1.heap.size, 1, none⟩) (.inl (by dsimp only; omega)) (.slice A8 (k + 1) c8)).mono (Nat.le_refl _) (show w8.heap.size ≤ (w8.setCell ⟨w1.heap.size, 1, none⟩ (.slice A8 (k + 1) c8)).heap.size by rw [size_setCell]; exact Nat.le_refl _))
              have hBH : Hid (Below w1.heap.size w1 (w8.setCell ⟨w1.heap.size, 1, none⟩ (.slice A8 (k + 1) c8))) := Lib.hid ((((hbr.alloc (by omega) _).drew).trans (hb8.mono (by omega))).setCell (Nat.le_refl _) _)
              have hfar : ∀ b o, b < w5.heap.size → b ≠ w1.heap.size → (w8.setCell ⟨w1.heap.size, 1, none⟩ (.slice A8 (k + 1) c8)).cell? ⟨b, o, none⟩ = wr.cell? ⟨b, o, none⟩ := fun b o h1 h2 => by
                rw [World.cell?_setCell_other _ _ _ _ (by intro e; injection e with e1; omega)]
                exact (hb8.cell (p := ⟨b, o, none⟩) h1).trans (World.cell?_alloc_lt wr _ _ (by dsimp only; omega))
              have hpcH := Lib.hid (Lib.hid (fun j (h : j < Q.length) => (hfar gQ j k2Q (by omega)).trans (pcr.out j h)))
              have hszH := Lib.hid (show w5.heap.size ≤ (w8.setCell ⟨w1.heap.size, 1, none⟩ (.slice A8 (k + 1) c8)).heap.size by rw [size_setCell]; have := hb8.size; simp at this; omega)
              have houH := Lib.hid (((hou.alloc (.cells #[.int .i64 (l1R Q[k])] 3)).drew.below hb8 (.inl (by omega))).setCell (p := ⟨w1.heap.size, 1, none⟩) (.inl (by dsimp only; omega)) (.slice A8 (k + 1) c8))
              clear hl8 ho8 hg8 hb8 hat8 bk8 y8 f8 bkr ownr hbr y2 f2 x0 hfar pcr hou
              go_wp2
              go_roundw
              case rel => exact ⟨k + 1, A8, c8, by omega, by go_num, hbkH.out, hoH.out, hBH.out, hpcH.out, hszH.out, houH.out⟩
              case measure => simp [intOf]; omega
          · obtain rfl : k = Q.length := by omega
            rw [List.take_length] at ownr
            obtain ⟨wQ, rfl⟩ : ∃ wo, wo = wr := ⟨_, rfl⟩
            have hVm : Q.map l1R = V := by rw [← hVe.out]; unfold l1L; rw [if_neg hre, hQ]
            rw [hVm] at ownr
            have nV : Hid (Q.length = V.length) := Lib.hid (by rw [← hVm, List.length_map])
            have rdV := ownr.rd'.mono (show w1.heap.size + 1 ≤ w5.heap.size by omega) (Nat.le_refl _)
            have rdU := hou.rd'
            have capU := hou.len.2
            have bx := bkr
            have hG := hbr
            clear ownr hou bkr hbr pcr y2 f2 hVm
            have y0 := bx.cell 0
            have y1 := bx.cell 1
            have hgl := bx.lt
            simp at y0 y1
            have hBx := hB1.out.trans (hG.mono (by omega))
            have bZx := bZ1.st hG
            clear hG
            go_wp2_with fail
            cases hk : scB U V with
            | false =>
              have hno := Lib.hid (ps_none (s := l) (by rw [hps.out]; simp [hk]))
              (with_reducible refine (scGood_n U none 0 0 V A Q.length c _ rdU rdV nU.out nV.out lU2 lV2 capU _ hk).mono ?_)
              rintro e w6 ⟨rfl, hb6⟩
              have hB6 := Lib.hid (hBx.trans (hb6.mono (by omega)))
              have bZ := bZx.st hb6
              have s6 := hb6.size
              clear hb6 bZx bx y0 y1 rdU rdV
              have t0 := bZ.cell 0
              have t1 := bZ.cell 1
              have f0 := bZ.frozen 0
              have f1 := bZ.frozen 1
              simp at t0 t1
              clear bZ
              go_wp2_with fail
              refine bodyPost_ret (v := .tuple #[.agg #[.slice none 0 0, .slice none 0 0], .bool false]) (by simp [results, Tryz.results43, go_sem, t0, t1]) rfl ?_
              rw [hno.out.1, hno.out.2.1, hno.out.2.2]
              exact PsRd.no rfl rfl ((hB6.out.setCell (by dsimp only; omega) _).setCell (by dsimp only; omega) _)
            | true =>
              (with_reducible refine (scGood_n U none 0 0 V A Q.length c _ rdU rdV nU.out nV.out lU2 lV2 capU _ hk).mono ?_)
              rintro e w6 ⟨rfl, hb6⟩
              have hB6 := hBx.trans (hb6.mono (by omega))
              have s6 := hb6.size
              have bZ6 := bZx.st hb6
              have bx6 := bx.st hb6
              have rdU6 := rdU.st hb6
              have rdV6 := rdV.st hb6
              clear hb6 bZx bx y0 y1 rdU rdV
              have v0 := bx6.cell 0
              have v1 := bx6.cell 1
              have hgl6 := bx6.lt
              simp at v0 v1
              go_wp2_with fail
              by_cases heq : sb U V = l
              · have hyes := Lib.hid (ps_some (s := l) (y := U) (z := V) (by rw [hps.out, if_pos ⟨hk, heq⟩]))
                (with_reducible refine (scText_n U none 0 0 V A Q.length c _ rdU6 rdV6 nU.out nV.out lU2 hk l heq).mono ?_)
                rintro e w7 ⟨rfl, hb7⟩
                have s7 := hb7.size
                have hB7 := Lib.hid (hB6.trans (hb7.mono (by omega)))
                have bZ := bZ6.st hb7
                have bx7 := bx6.st hb7
                have rdU7 := rdU6.st hb7
                have rdV7 := rdV6.st hb7
                clear v0 v1 hb7 bZ6 bx6 rdU6 rdV6
                have v0 := bx7.cell 0
                have v1 := bx7.cell 1
                have t0 := bZ.cell 0
                have t1 := bZ.cell 1
                have f0 := bZ.frozen 0
                have f1 := bZ.frozen 1
                have ql := bZ.lt
                simp at v0 v1 t0 t1
                have hsetc : ∀ b o, w.heap.size < b → ((w7.setCell ⟨w.heap.size, 0, none⟩ (.slice none 0 0)).setCell ⟨w.heap.size, 1, none⟩ (.slice A Q.length c)).cell? ⟨b, o, none⟩ = w7.cell? ⟨b, o, none⟩ := fun b o h1 => by
                  rw [World.cell?_setCell_other _ _ _ _ (by intro e; injection e with e1; omega), World.cell?_setCell_other _ _ _ _ (by intro e; injection e with e1; omega)]
                have hUH := Lib.hid ((rdU7.keep (w' := (w7.setCell ⟨w.heap.size, 0, none⟩ (.slice none 0 0)).setCell ⟨w.heap.size, 1, none⟩ (.slice A Q.length c)) (fun b o h1 h2 h3 => hsetc b o (by omega))).std)
                have hVH := Lib.hid ((rdV7.keep (w' := (w7.setCell ⟨w.heap.size, 0, none⟩ (.slice none 0 0)).setCell ⟨w.heap.size, 1, none⟩ (.slice A Q.length c)) (fun b o h1 h2 h3 => hsetc b o (by omega))).std)
                clear bx7 bZ rdU7 rdV7 hsetc
                go_wp2_with fail
                refine bodyPost_ret (v := .tuple #[.agg #[.slice none 0 0, .slice A Q.length c], .bool true]) (by simp [results, Tryz.results43, go_sem, t0, t1]) rfl ?_
                rw [hyes.out.1, hyes.out.2.1, hyes.out.2.2]
                exact ⟨none, 0, A, c, by rw [← nU.out, ← nV.out], hUH.out, hVH.out, lU2, lV2, (hB7.out.setCell (by dsimp only; omega) _).setCell (by dsimp only; omega) _⟩
              · have hno := Lib.hid (ps_none (s := l) (by rw [hps.out, if_neg (fun h => heq h.2)]))
                have hne : ¬ str (sb U V) = str l := fun e => heq (str_inj e)
                have hne2 : ((str (sb U V)).toList == (str l).toList) = false := by
                  rw [beq_eq_false_iff_ne]
                  intro e
                  rw [ByteArray.toList_eq, ByteArray.toList_eq, str_toList, str_toList] at e
                  exact heq e
                (with_reducible refine (scText_n U none 0 0 V A Q.length c _ rdU6 rdV6 nU.out nV.out lU2 hk _ rfl).mono ?_)
                rintro e w7 ⟨rfl, hb7⟩
                have s7 := hb7.size
                have hB7 := Lib.hid (hB6.trans (hb7.mono (by omega)))
                have bZ := bZ6.st hb7
                clear v0 v1 hb7 bZ6 bx6 rdU6 rdV6 heq
                have t0 := bZ.cell 0
                have t1 := bZ.cell 1
                have f0 := bZ.frozen 0
                have f1 := bZ.frozen 1
                simp at t0 t1
                clear bZ
                go_wp2_with fail
                refine bodyPost_ret (v := .tuple #[.agg #[.slice none 0 0, .slice none 0 0], .bool false]) (by simp [results, Tryz.results43, go_sem, t0, t1]) rfl ?_
                rw [hno.out.1, hno.out.2.1, hno.out.2.2]
                exact PsRd.no rfl rfl ((hB7.out.setCell (by dsimp only; omega) _).setCell (by dsimp only; omega) _)
    · have han : ¬ str a = { data := #[] } := fun e => hae (str_inj (b := []) e)
      have han2 : ((str a).toList == ({ data := #[] } : ByteArray).toList) = false := by
        rw [beq_eq_false_iff_ne]
        intro e
        rw [ByteArray.toList_eq, ByteArray.toList_eq, str_toList] at e
        exact hae e
      have han3 : ((str a).toList == []) = false := by
        rw [beq_eq_false_iff_ne]
        intro e
        rw [ByteArray.toList_eq, str_toList] at e
        exact hae e
      go_wp2_with fail
      rw [← hW2]
      clear hW2 x0 x1
      (with_reducible refine (l1Split_n a 43 43 rfl _ (by omega)).mono ?_)
      rintro e w3 ⟨AP0, cP0, rfl, hxP, hbP⟩
      obtain ⟨P, hP⟩ : ∃ P, splitL 43 a = P := ⟨_, rfl⟩
      rw [hP] at hxP ⊢
      have hneP : P ≠ [] := by rw [← hP]; exact splitL_ne _ _
      have hnP : P.length ≤ a.length + 1 := by
        rw [← hP, splitL_length]
        have := List.count_le_length (a := (43 : UInt8)) (l := a)
        omega
      have hlP : Hid (∀ k (h : k < P.length), P[k].length ≤ 1048576) := Lib.hid (fun k h => by
        have := splitL_piece_le 43 a P[k] (by rw [hP]; exact List.getElem_mem h)
        omega)
      obtain ⟨hcP, hmP, hgP⟩ := hxP.out
      obtain ⟨gP, rfl, k1P, k2P, pcP⟩ := hgP (List.length_pos_iff.2 hneP)
      have sP := hbP.size
      have bxP := bx.st hbP
      have hGP := hG.trans (hbP.mono (by omega))
      have vkP := (hbP.cell (p := ⟨g1, 1, none⟩) (show g1 < W2.heap.size by omega)).trans v1
      clear hxP hgP hbP bx hG v1
      go_wp2_with fail
      go_loopw [26] (fun i wr => ∃ (k : Nat) (A : Option Addr) (c : Nat), k ≤ P.length ∧ i = .int .i64 k ∧ Bk wr w1.heap.size 53 #[.slice A k c, .slice none 0 0] ∧ Own wr w3.heap.size wr.heap.size (.slice A k c) ((P.take k).map l1R) ∧ Below w1.heap.size w1 wr ∧ Hid (∀ j (h : j < P.length), wr.cell? ⟨gP, j, none⟩ = some (.string (str P[j]))) ∧ w3.heap.size ≤ wr.heap.size ∧ wr.cell? ⟨g1, 1, none⟩ = some (.string (str r))) (fun i _ => P.length - (intOf i).toNat)
      case atStart => exact ⟨0, none, 0, Nat.zero_le _, rfl, bxP, Own.nil, hGP, Lib.hid pcP, Nat.le_refl _, vkP⟩
      case round =>
        obtain ⟨k, A, c, hk, rfl, bkr, ownr, hbr, pcr, hwl, vk⟩ := hrel
        have y2 := bkr.cell 0
        have f2 := bkr.frozen 0
        have hgl := bkr.lt
        simp at y2
        by_cases hlt : k < P.length
        · have x0 : wr.cell? ⟨gP, k, none⟩ = some (.string (str P[k])) := pcr.out k hlt
          have hpk := hlP.out k hlt
          have hlkH := Lib.hid (show ((P.take k).map l1R).length = k by rw [List.length_map, List.length_take]; omega)
          have hsnH := Lib.hid (show (P.take k).map l1R ++ [l1R P[k]] = (P.take (k + 1)).map l1R by rw [List.take_succ_eq_append_getElem hlt, List.map_append]; rfl)
          go_wp2_with fail
          go_region_law (first
            | (refine step_append_ints rfl (.tmp 31) (.tmp 34) rfl (v := .slice A k c) rfl (by first | exact ownr.alloc _ | exact (ownr.alloc _).drew) (ys := [l1R P[k]]) rfl (by first | exact (Rd.one wr _ _ _ rfl).mono (Nat.zero_le _) (by simp) | exact ((Rd.one wr _ _ _ rfl).drew).mono (Nat.zero_le _) (by simp)) (by rw [hlkH.out]; simp; omega) (by first | omega | (simp <;> omega)) ?_; intro v8 w8 ho8 hg8 hb8 hat8; (obtain ⟨A8, c8, rfl, -, -⟩ := ho8.rd); (rw [hsnH.out] at ho8);
                (have bk8 := (show Bk _ w1.heap.size 53 #[.slice A k c, .slice none 0 0] from by first | exact (bkr.alloc _).below hb8 (by omega) | exact ((bkr.alloc _).drew).below hb8 (by omega)));
                (have y8 := bk8.cell 0); (have f8 := bk8.frozen 0); (simp at y8))
            | (go_simp; (go_at_call 106; ((with_reducible refine (l1Read_any P[k] _ hpk).mono ?_); rintro e w6 ⟨rfl, rfl⟩))))
          all_goals
            have hl8 : ((P.take (k + 1)).map l1R).length = k + 1 := by rw [List.length_map, List.length_take]; omega
            rw [hl8] at ho8
            have hbkH : Hid (Bk (w8.setCell ⟨w1.heap.size, 0, none⟩ (.slice A8 (k + 1) c8)) w1.heap.size 53 #[.slice A8 (k + 1) c8, .slice none 0 0]) := Lib.hid (by simpa using bk8.set_ 0 (.slice A8 (k + 1) c8))
            have hoH := Lib.hid ((ho8.setCell (p := ⟨w1.heap.size, 0, none⟩) (.inl (by dsimp only; omega)) (.slice A8 (k + 1) c8)).mono (Nat.le_refl _) (show w8.heap.size ≤ (w8.setCell ⟨w1.heap.size, 0, none⟩ (.slice A8 (k + 1) c8)).heap.size by rw [size_setCell]; exact Nat.le_refl _))
            have hBH : Hid (Below w1.heap.size w1 (w8.setCell ⟨w1.heap.size, 0, none⟩ (.slice A8 (k + 1) c8))) := Lib.hid ((((hbr.alloc (by omega) _).drew).trans (hb8.mono (by omega))).setCell (Nat.le_refl _) _)
            have hfar : ∀ b o, b < w3.heap.size → b ≠ w1.heap.size → (w8.setCell ⟨w1.heap.size, 0, none⟩ (.slice A8 (k + 1) c8)).cell? ⟨b, o, none⟩ = wr.cell? ⟨b, o, none⟩ := fun b o h1 h2 => by
              rw [World.cell?_setCell_other _ _ _ _ (by intro e; injection e with e1; omega)]
              exact (hb8.cell (p := ⟨b, o, none⟩) h1).trans (World.cell?_alloc_lt wr _ _ (by dsimp only; omega))
            have hpcH := Lib.hid (Lib.hid (fun j (h : j < P.length) => (hfar gP j k2P (by omega)).trans (pcr.out j h)))
            have hszH := Lib.hid (show w3.heap.size ≤ (w8.setCell ⟨w1.heap.size, 0, none⟩ (.slice A8 (k + 1) c8)).heap.size by rw [size_setCell]; have := hb8.size; simp at this; omega)
            have hvkH := Lib.hid ((hfar g1 1 (by omega) (by omega)).trans vk)
            clear hl8 ho8 hg8 hb8 hat8 bk8 y8 f8 bkr ownr hbr y2 f2 x0 hfar pcr vk
            go_wp2
            go_roundw
            case rel => exact ⟨k + 1, A8, c8, by omega, by go_num, hbkH.out, hoH.out, hBH.out, hpcH.out, hszH.out, hvkH.out⟩
            case measure => simp [intOf]; omega
        · obtain rfl : k = P.length := by omega
          rw [List.take_length] at ownr
          obtain ⟨wP, rfl⟩ : ∃ wo, wo = wr := ⟨_, rfl⟩
          have hUm : P.map l1R = U := by rw [← hUe.out]; unfold l1L; rw [if_neg hae, hP]
          rw [hUm] at ownr
          have nU : Hid (P.length = U.length) := Lib.hid (by rw [← hUm, List.length_map])
          obtain ⟨lU, hlU⟩ : ∃ x, x = w3.heap.size := ⟨_, rfl⟩
          obtain ⟨hU, hhU⟩ : ∃ x, x = wP.heap.size := ⟨_, rfl⟩
          have hou := ownr
          rw [← hlU, ← hhU] at hou
          have bx := bkr
          have hG := hbr
          have v1 := vk
          obtain ⟨AU, cU, hAU⟩ : ∃ x y, x = A ∧ y = c := ⟨_, _, rfl, rfl⟩
          obtain ⟨rfl, rfl⟩ := hAU
          clear ownr bkr hbr pcr y2 f2 hUm vk v0
          by_cases hre : r = []
          · have hV0 : V = [] := by rw [← hVe.out, hre]; rfl
            have hr0 : str r = { data := #[] } := by rw [hre]; rfl
            have rdU := hou.rd'
            have capU := hou.len.2
            have rdV : Rd wP (w1.heap.size + 1) wP.heap.size none V := by rw [hV0]; exact Rd.nil
            have nV : Hid (0 = V.length) := Lib.hid (by rw [hV0]; rfl)
            clear hV0
            rw [hr0] at v1
            have y0 := bx.cell 0
            have y1 := bx.cell 1
            have hgl := bx.lt
            simp at y0 y1
            have hBx := hB1.out.trans (hG.mono (by omega))
            have bZx := bZ1.st hG
            clear hG
            go_wp2_with fail
            cases hk : scB U V with
            | false =>
              have hno := Lib.hid (ps_none (s := l) (by rw [hps.out]; simp [hk]))
              (with_reducible refine (scGood_n U AU P.length cU V none 0 0 _ rdU rdV nU.out nV.out lU2 lV2 capU _ hk).mono ?_)
              rintro e w6 ⟨rfl, hb6⟩
              have hB6 := Lib.hid (hBx.trans (hb6.mono (by omega)))
              have bZ := bZx.st hb6
              have s6 := hb6.size
              clear hb6 bZx bx y0 y1 rdU rdV
              have t0 := bZ.cell 0
              have t1 := bZ.cell 1
              have f0 := bZ.frozen 0
              have f1 := bZ.frozen 1
              simp at t0 t1
              clear bZ
              go_wp2_with fail
              refine bodyPost_ret (v := .tuple #[.agg #[.slice none 0 0, .slice none 0 0], .bool false]) (by simp [results, Tryz.results43, go_sem, t0, t1]) rfl ?_
              rw [hno.out.1, hno.out.2.1, hno.out.2.2]
              exact PsRd.no rfl rfl ((hB6.out.setCell (by dsimp only; omega) _).setCell (by dsimp only; omega) _)
            | true =>
              (with_reducible refine (scGood_n U AU P.length cU V none 0 0 _ rdU rdV nU.out nV.out lU2 lV2 capU _ hk).mono ?_)
              rintro e w6 ⟨rfl, hb6⟩
              have hB6 := hBx.trans (hb6.mono (by omega))
              have s6 := hb6.size
              have bZ6 := bZx.st hb6
              have bx6 := bx.st hb6
              have rdU6 := rdU.st hb6
              have rdV6 := rdV.st hb6
              clear hb6 bZx bx y0 y1 rdU rdV
              have v0 := bx6.cell 0
              have v1 := bx6.cell 1
              have hgl6 := bx6.lt
              simp at v0 v1
              go_wp2_with fail
              by_cases heq : sb U V = l
              · have hyes := Lib.hid (ps_some (s := l) (y := U) (z := V) (by rw [hps.out, if_pos ⟨hk, heq⟩]))
                (with_reducible refine (scText_n U AU P.length cU V none 0 0 _ rdU6 rdV6 nU.out nV.out lU2 hk l heq).mono ?_)
                rintro e w7 ⟨rfl, hb7⟩
                have s7 := hb7.size
                have hB7 := Lib.hid (hB6.trans (hb7.mono (by omega)))
                have bZ := bZ6.st hb7
                have bx7 := bx6.st hb7
                have rdU7 := rdU6.st hb7
                have rdV7 := rdV6.st hb7
                clear v0 v1 hb7 bZ6 bx6 rdU6 rdV6
                have v0 := bx7.cell 0
                have v1 := bx7.cell 1
                have t0 := bZ.cell 0
                have t1 := bZ.cell 1
                have f0 := bZ.frozen 0
                have f1 := bZ.frozen 1
                have ql := bZ.lt
                simp at v0 v1 t0 t1
                have hsetc : ∀ b o, w.heap.size < b → ((w7.setCell ⟨w.heap.size, 0, none⟩ (.slice AU P.length cU)).setCell ⟨w.heap.size, 1, none⟩ (.slice none 0 0)).cell? ⟨b, o, none⟩ = w7.cell? ⟨b, o, none⟩ := fun b o h1 => by
                  rw [World.cell?_setCell_other _ _ _ _ (by intro e; injection e with e1; omega), World.cell?_setCell_other _ _ _ _ (by intro e; injection e with e1; omega)]
                have hUH := Lib.hid ((rdU7.keep (w' := (w7.setCell ⟨w.heap.size, 0, none⟩ (.slice AU P.length cU)).setCell ⟨w.heap.size, 1, none⟩ (.slice none 0 0)) (fun b o h1 h2 h3 => hsetc b o (by omega))).std)
                have hVH := Lib.hid ((rdV7.keep (w' := (w7.setCell ⟨w.heap.size, 0, none⟩ (.slice AU P.length cU)).setCell ⟨w.heap.size, 1, none⟩ (.slice none 0 0)) (fun b o h1 h2 h3 => hsetc b o (by omega))).std)
                clear bx7 bZ rdU7 rdV7 hsetc
                go_wp2_with fail
                refine bodyPost_ret (v := .tuple #[.agg #[.slice AU P.length cU, .slice none 0 0], .bool true]) (by simp [results, Tryz.results43, go_sem, t0, t1]) rfl ?_
                rw [hyes.out.1, hyes.out.2.1, hyes.out.2.2]
                exact ⟨AU, cU, none, 0, by rw [← nU.out, ← nV.out], hUH.out, hVH.out, lU2, lV2, (hB7.out.setCell (by dsimp only; omega) _).setCell (by dsimp only; omega) _⟩
              · have hno := Lib.hid (ps_none (s := l) (by rw [hps.out, if_neg (fun h => heq h.2)]))
                have hne : ¬ str (sb U V) = str l := fun e => heq (str_inj e)
                have hne2 : ((str (sb U V)).toList == (str l).toList) = false := by
                  rw [beq_eq_false_iff_ne]
                  intro e
                  rw [ByteArray.toList_eq, ByteArray.toList_eq, str_toList, str_toList] at e
                  exact heq e
                (with_reducible refine (scText_n U AU P.length cU V none 0 0 _ rdU6 rdV6 nU.out nV.out lU2 hk _ rfl).mono ?_)
                rintro e w7 ⟨rfl, hb7⟩
                have s7 := hb7.size
                have hB7 := Lib.hid (hB6.trans (hb7.mono (by omega)))
                have bZ := bZ6.st hb7
                clear v0 v1 hb7 bZ6 bx6 rdU6 rdV6 heq
                have t0 := bZ.cell 0
                have t1 := bZ.cell 1
                have f0 := bZ.frozen 0
                have f1 := bZ.frozen 1
                simp at t0 t1
                clear bZ
                go_wp2_with fail
                refine bodyPost_ret (v := .tuple #[.agg #[.slice none 0 0, .slice none 0 0], .bool false]) (by simp [results, Tryz.results43, go_sem, t0, t1]) rfl ?_
                rw [hno.out.1, hno.out.2.1, hno.out.2.2]
                exact PsRd.no rfl rfl ((hB7.out.setCell (by dsimp only; omega) _).setCell (by dsimp only; omega) _)
          · have hrn : ¬ str r = { data := #[] } := fun e => hre (str_inj (b := []) e)
            have hrn2 : ((str r).toList == ({ data := #[] } : ByteArray).toList) = false := by
              rw [beq_eq_false_iff_ne]
              intro e
              rw [ByteArray.toList_eq, ByteArray.toList_eq, str_toList] at e
              exact hre e
            have hrn3 : ((str r).toList == []) = false := by
              rw [beq_eq_false_iff_ne]
              intro e
              rw [ByteArray.toList_eq, str_toList] at e
              exact hre e
            have hrn4 : ¬ r = [] := hre
            go_wp2_with fail
            (with_reducible refine (l1Split_n r 32 32 rfl _ (by omega)).mono ?_)
            rintro e w5 ⟨AQ0, cQ0, rfl, hxQ, hbQ⟩
            obtain ⟨Q, hQ⟩ : ∃ P, splitL 32 r = P := ⟨_, rfl⟩
            rw [hQ] at hxQ ⊢
            have hneQ : Q ≠ [] := by rw [← hQ]; exact splitL_ne _ _
            have hnQ : Q.length ≤ r.length + 1 := by
              rw [← hQ, splitL_length]
              have := List.count_le_length (a := (32 : UInt8)) (l := r)
              omega
            have hlQ : Hid (∀ k (h : k < Q.length), Q[k].length ≤ 1048576) := Lib.hid (fun k h => by
              have := splitL_piece_le 32 r Q[k] (by rw [hQ]; exact List.getElem_mem h)
              omega)
            obtain ⟨hcQ, hmQ, hgQ⟩ := hxQ.out
            obtain ⟨gQ, rfl, k1Q, k2Q, pcQ⟩ := hgQ (List.length_pos_iff.2 hneQ)
            have sQ := hbQ.size
            have bxQ := bx.st hbQ
            have hGQ := hG.trans (hbQ.mono (by omega))
            have hoQ := hou.st hbQ
            clear hxQ hgQ hbQ bx hG hou
            go_wp2_with fail
            go_loopw [47] (fun i wr => ∃ (k : Nat) (A : Option Addr) (c : Nat), k ≤ Q.length ∧ i = .int .i64 k ∧ Bk wr w1.heap.size 53 #[.slice AU P.length cU, .slice A k c] ∧ Own wr w5.heap.size wr.heap.size (.slice A k c) ((Q.take k).map l1R) ∧ Below w1.heap.size w1 wr ∧ Hid (∀ j (h : j < Q.length), wr.cell? ⟨gQ, j, none⟩ = some (.string (str Q[j]))) ∧ w5.heap.size ≤ wr.heap.size ∧ Own wr lU hU (.slice AU P.length cU) U) (fun i _ => Q.length - (intOf i).toNat)
            case atStart => exact ⟨0, none, 0, Nat.zero_le _, rfl, bxQ, Own.nil, hGQ, Lib.hid pcQ, Nat.le_refl _, hoQ⟩
            case round =>
              obtain ⟨k, A, c, hk, rfl, bkr, ownr, hbr, pcr, hwl, hou⟩ := hrel
              have y2 := bkr.cell 1
              have f2 := bkr.frozen 1
              have hgl := bkr.lt
              simp at y2
              by_cases hlt : k < Q.length
              · have x0 : wr.cell? ⟨gQ, k, none⟩ = some (.string (str Q[k])) := pcr.out k hlt
                have hpk := hlQ.out k hlt
                have hlkH := Lib.hid (show ((Q.take k).map l1R).length = k by rw [List.length_map, List.length_take]; omega)
                have hsnH := Lib.hid (show (Q.take k).map l1R ++ [l1R Q[k]] = (Q.take (k + 1)).map l1R by rw [List.take_succ_eq_append_getElem hlt, List.map_append]; rfl)
                go_wp2_with fail
                go_region_law (first
                  | (refine step_append_ints rfl (.tmp 52) (.tmp 55) rfl (v := .slice A k c) rfl (by first | exact ownr.alloc _ | exact (ownr.alloc _).drew) (ys := [l1R Q[k]]) rfl (by first | exact (Rd.one wr _ _ _ rfl).mono (Nat.zero_le _) (by simp) | exact ((Rd.one wr _ _ _ rfl).drew).mono (Nat.zero_le _) (by simp)) (by rw [hlkH.out]; simp; omega) (by first | omega | (simp <;> omega)) ?_; intro v8 w8 ho8 hg8 hb8 hat8; (obtain ⟨A8, c8, rfl, -, -⟩ := ho8.rd); (rw [hsnH.out] at ho8);
                      (have bk8 := (show Bk _ w1.heap.size 53 #[.slice AU P.length cU, .slice A k c] from by first | exact (bkr.alloc _).below hb8 (by omega) | exact ((bkr.alloc _).drew).below hb8 (by omega)));
                      (have y8 := bk8.cell 1); (have f8 := bk8.frozen 1); (simp at y8))
                  | (go_simp; (go_at_call 106; ((with_reducible refine (l1Read_any Q[k] _ hpk).mono ?_); rintro e w6 ⟨rfl, rfl⟩))))
                all_goals
                  have hl8 : ((Q.take (k + 1)).map l1R).length = k + 1 := by rw [List.length_map, List.length_take]; omega
                  rw [hl8] at ho8
                  have hbkH : Hid (Bk (w8.setCell ⟨w1.heap.size, 1, none⟩ (.slice A8 (k + 1) c8)) w1.heap.size 53 #[.slice AU P.length cU, .slice A8 (k + 1) c8]) := Lib.hid (by simpa using bk8.set_ 1 (.slice A8 (k + 1) c8))
                  have hoH := Lib.hid ((ho8.setCell (p := ⟨w1.heap.size, 1, none⟩) (.inl (by dsimp only; omega)) (.slice A8 (k + 1) c8)).mono (Nat.le_refl _) (show w8.heap.size ≤ (w8.setCell ⟨w1.heap.size, 1, none⟩ (.slice A8 (k + 1) c8)).heap.size by rw [size_setCell]; exact Nat.le_refl _))
                  have hBH : Hid (Below w1.heap.size w1 (w8.setCell ⟨w1.heap.size, 1, none⟩ (.slice A8 (k + 1) c8))) := Lib.hid ((((hbr.alloc (by omega) _).drew).trans (hb8.mono (by omega))).setCell (Nat.le_refl _) _)
                  have hfar : ∀ b o, b < w5.heap.size → b ≠ w1.heap.size → (w8.setCell ⟨w1.heap.size, 1, none⟩ (.slice A8 (k + 1) c8)).cell? ⟨b, o, none⟩ = wr.cell? ⟨b, o, none⟩ := fun b o h1 h2 => by
                    rw [World.cell?_setCell_other _ _ _ _ (by intro e; injection e with e1; omega)]
                    exact (hb8.cell (p := ⟨b, o, none⟩) h1).trans (World.cell?_alloc_lt wr _ _ (by dsimp only; omega))
                  have hpcH := Lib.hid (Lib.hid (fun j (h : j < Q.length) => (hfar gQ j k2Q (by omega)).trans (pcr.out j h)))
                  have hszH := Lib.hid (show w5.heap.size ≤ (w8.setCell ⟨w1.heap.size, 1, none⟩ (.slice A8 (k + 1) c8)).heap.size by rw [size_setCell]; have := hb8.size; simp at this; omega)
                  have houH := Lib.hid (((hou.alloc (.cells #[.int .i64 (l1R Q[k])] 3)).drew.below hb8 (.inl (by omega))).setCell (p := ⟨w1.heap.size, 1, none⟩) (.inl (by dsimp only; omega)) (.slice A8 (k + 1) c8))
                  clear hl8 ho8 hg8 hb8 hat8 bk8 y8 f8 bkr ownr hbr y2 f2 x0 hfar pcr hou
                  go_wp2
                  go_roundw
                  case rel => exact ⟨k + 1, A8, c8, by omega, by go_num, hbkH.out, hoH.out, hBH.out, hpcH.out, hszH.out, houH.out⟩
                  case measure => simp [intOf]; omega
              · obtain rfl : k = Q.length := by omega
                rw [List.take_length] at ownr
                obtain ⟨wQ, rfl⟩ : ∃ wo, wo = wr := ⟨_, rfl⟩
                have hVm : Q.map l1R = V := by rw [← hVe.out]; unfold l1L; rw [if_neg hre, hQ]
                rw [hVm] at ownr
                have nV : Hid (Q.length = V.length) := Lib.hid (by rw [← hVm, List.length_map])
                have rdV := ownr.rd'.mono (show w1.heap.size + 1 ≤ w5.heap.size by omega) (Nat.le_refl _)
                have rdU := hou.rd'
                have capU := hou.len.2
                have bx := bkr
                have hG := hbr
                clear ownr hou bkr hbr pcr y2 f2 hVm
                have y0 := bx.cell 0
                have y1 := bx.cell 1
                have hgl := bx.lt
                simp at y0 y1
                have hBx := hB1.out.trans (hG.mono (by omega))
                have bZx := bZ1.st hG
                clear hG
                go_wp2_with fail
                cases hk : scB U V with
                | false =>
                  have hno := Lib.hid (ps_none (s := l) (by rw [hps.out]; simp [hk]))
                  (with_reducible refine (scGood_n U AU P.length cU V A Q.length c _ rdU rdV nU.out nV.out lU2 lV2 capU _ hk).mono ?_)
                  rintro e w6 ⟨rfl, hb6⟩
                  have hB6 := Lib.hid (hBx.trans (hb6.mono (by omega)))
                  have bZ := bZx.st hb6
                  have s6 := hb6.size
                  clear hb6 bZx bx y0 y1 rdU rdV
                  have t0 := bZ.cell 0
                  have t1 := bZ.cell 1
                  have f0 := bZ.frozen 0
                  have f1 := bZ.frozen 1
                  simp at t0 t1
                  clear bZ
                  go_wp2_with fail
                  refine bodyPost_ret (v := .tuple #[.agg #[.slice none 0 0, .slice none 0 0], .bool false]) (by simp [results, Tryz.results43, go_sem, t0, t1]) rfl ?_
                  rw [hno.out.1, hno.out.2.1, hno.out.2.2]
                  exact PsRd.no rfl rfl ((hB6.out.setCell (by dsimp only; omega) _).setCell (by dsimp only; omega) _)
                | true =>
                  (with_reducible refine (scGood_n U AU P.length cU V A Q.length c _ rdU rdV nU.out nV.out lU2 lV2 capU _ hk).mono ?_)
                  rintro e w6 ⟨rfl, hb6⟩
                  have hB6 := hBx.trans (hb6.mono (by omega))
                  have s6 := hb6.size
                  have bZ6 := bZx.st hb6
                  have bx6 := bx.st hb6
                  have rdU6 := rdU.st hb6
                  have rdV6 := rdV.st hb6
                  clear hb6 bZx bx y0 y1 rdU rdV
                  have v0 := bx6.cell 0
                  have v1 := bx6.cell 1
                  have hgl6 := bx6.lt
                  simp at v0 v1
                  go_wp2_with fail
                  by_cases heq : sb U V = l
                  · have hyes := Lib.hid (ps_some (s := l) (y := U) (z := V) (by rw [hps.out, if_pos ⟨hk, heq⟩]))
                    (with_reducible refine (scText_n U AU P.length cU V A Q.length c _ rdU6 rdV6 nU.out nV.out lU2 hk l heq).mono ?_)
                    rintro e w7 ⟨rfl, hb7⟩
                    have s7 := hb7.size
                    have hB7 := Lib.hid (hB6.trans (hb7.mono (by omega)))
                    have bZ := bZ6.st hb7
                    have bx7 := bx6.st hb7
                    have rdU7 := rdU6.st hb7
                    have rdV7 := rdV6.st hb7
                    clear v0 v1 hb7 bZ6 bx6 rdU6 rdV6
                    have v0 := bx7.cell 0
                    have v1 := bx7.cell 1
                    have t0 := bZ.cell 0
                    have t1 := bZ.cell 1
                    have f0 := bZ.frozen 0
                    have f1 := bZ.frozen 1
                    have ql := bZ.lt
                    simp at v0 v1 t0 t1
                    have hsetc : ∀ b o, w.heap.size < b → ((w7.setCell ⟨w.heap.size, 0, none⟩ (.slice AU P.length cU)).setCell ⟨w.heap.size, 1, none⟩ (.slice A Q.length c)).cell? ⟨b, o, none⟩ = w7.cell? ⟨b, o, none⟩ := fun b o h1 => by
                      rw [World.cell?_setCell_other _ _ _ _ (by intro e; injection e with e1; omega), World.cell?_setCell_other _ _ _ _ (by intro e; injection e with e1; omega)]
                    have hUH := Lib.hid ((rdU7.keep (w' := (w7.setCell ⟨w.heap.size, 0, none⟩ (.slice AU P.length cU)).setCell ⟨w.heap.size, 1, none⟩ (.slice A Q.length c)) (fun b o h1 h2 h3 => hsetc b o (by omega))).std)
                    have hVH := Lib.hid ((rdV7.keep (w' := (w7.setCell ⟨w.heap.size, 0, none⟩ (.slice AU P.length cU)).setCell ⟨w.heap.size, 1, none⟩ (.slice A Q.length c)) (fun b o h1 h2 h3 => hsetc b o (by omega))).std)
                    clear bx7 bZ rdU7 rdV7 hsetc
                    go_wp2_with fail
                    refine bodyPost_ret (v := .tuple #[.agg #[.slice AU P.length cU, .slice A Q.length c], .bool true]) (by simp [results, Tryz.results43, go_sem, t0, t1]) rfl ?_
                    rw [hyes.out.1, hyes.out.2.1, hyes.out.2.2]
                    exact ⟨AU, cU, A, c, by rw [← nU.out, ← nV.out], hUH.out, hVH.out, lU2, lV2, (hB7.out.setCell (by dsimp only; omega) _).setCell (by dsimp only; omega) _⟩
                  · have hno := Lib.hid (ps_none (s := l) (by rw [hps.out, if_neg (fun h => heq h.2)]))
                    have hne : ¬ str (sb U V) = str l := fun e => heq (str_inj e)
                    have hne2 : ((str (sb U V)).toList == (str l).toList) = false := by
                      rw [beq_eq_false_iff_ne]
                      intro e
                      rw [ByteArray.toList_eq, ByteArray.toList_eq, str_toList, str_toList] at e
                      exact heq e
                    (with_reducible refine (scText_n U AU P.length cU V A Q.length c _ rdU6 rdV6 nU.out nV.out lU2 hk _ rfl).mono ?_)
                    rintro e w7 ⟨rfl, hb7⟩
                    have s7 := hb7.size
                    have hB7 := Lib.hid (hB6.trans (hb7.mono (by omega)))
                    have bZ := bZ6.st hb7
                    clear v0 v1 hb7 bZ6 bx6 rdU6 rdV6 heq
                    have t0 := bZ.cell 0
                    have t1 := bZ.cell 1
                    have f0 := bZ.frozen 0
                    have f1 := bZ.frozen 1
                    simp at t0 t1
                    clear bZ
                    go_wp2_with fail
                    refine bodyPost_ret (v := .tuple #[.agg #[.slice none 0 0, .slice none 0 0], .bool false]) (by simp [results, Tryz.results43, go_sem, t0, t1]) rfl ?_
                    rw [hno.out.1, hno.out.2.1, hno.out.2.2]
                    exact PsRd.no rfl rfl ((hB7.out.setCell (by dsimp only; omega) _).setCell (by dsimp only; omega) _)
  · have hno := Lib.hid (ps_none (ps_two h2))
    go_enter Tryz.func43, Tryz.ntmps43
    go_wp2_with fail
    rw [← hZB]
    (with_reducible refine (l1Split_n l 58 58 rfl _ (by omega)).mono ?_)
    rintro e w1 ⟨A1, c1, rfl, hx1, hb1⟩
    have s1 : w.heap.size + 1 ≤ w1.heap.size := by have := hb1.size; omega
    have hB1 := Lib.hid (hBa.trans (hb1.mono (by omega)))
    have bZ1 := bZ0.st hb1
    rw [hs0] at hx1
    obtain ⟨W, hW⟩ : ∃ W, splitL 58 l = W := ⟨_, rfl⟩
    rw [hW] at hx1 ⊢
    clear hb1 bZ0 hBa hs0
    have hWl : ¬ W.length = 2 := by rw [← hW]; exact h2
    have bZ := bZ1
    clear hx1
    have t0 := bZ.cell 0
    have t1 := bZ.cell 1
    have f0 := bZ.frozen 0
    have f1 := bZ.frozen 1
    simp at t0 t1
    clear bZ
    go_wp2_with fail
    refine bodyPost_ret (v := .tuple #[.agg #[.slice none 0 0, .slice none 0 0], .bool false]) (by simp [results, Tryz.results43, go_sem, t0, t1]) rfl ?_
    rw [hno.out.1, hno.out.2.1, hno.out.2.2]
    exact PsRd.no rfl rfl ((hB1.out.setCell (by dsimp only; omega) _).setCell (by dsimp only; omega) _)
end Go.Proofs.YtjhbffndiaggmaaGreatDoor
