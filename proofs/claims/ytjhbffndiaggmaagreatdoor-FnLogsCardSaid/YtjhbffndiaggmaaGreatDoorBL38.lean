/-
  Contracts and plain laws that the walk uses, several texts in one. The conditions are named ahead of each.
-/
import Derived.Test.YtjhbffndiaggmaaGreatDoorBL37
import Derived.Test.YtjhbffndiaggmaaGreatDoorZLKbText
import Derived.Test.YtjhbffndiaggmaaGreatDoorBL28
import Derived.Test.YtjhbffndiaggmaaGreatDoorBL1

/-
  Contract of ParseKeyBook in the program. The conditions are a bound on the text's length, and the library's variables.
-/
namespace Go.Proofs.YtjhbffndiaggmaaGreatDoor
open Go.RowKit Go.ChangeShapes Go.WideShapes
set_option linter.unusedVariables false
set_option linter.unusedSimpArgs false

theorem cut_call (b : UInt8) (l : List UInt8) (w : World) (hl : l.length ≤ 1048577) (hS : Sen w) :
    Calls Tryz.prog 82 #[.string (str l), .string { data := #[b] }] w fun e w' => ∃ v, e = .returned (.tuple #[.string (str (cutA b l)), .string (str (cutB b l)), .bool v]) ∧ Below w.heap.size w w' := by
  obtain ⟨m, hm⟩ := hS.len
  refine (Tryz.strings_Cut (str l) (str [b]) m w (by rw [str_size]; omega) hm).mono ?_
  rintro e w' ⟨h1, n, rfl⟩
  simp only [str_toList] at h1
  exact ⟨_, h1, below_refl_drewN n⟩
theorem Rd.tail {w : World} {lo hi b off : Nat} {z : Int} {zs : List Int} (h : Rd w lo hi (some ⟨b, off, none⟩) (z :: zs)) : Rd w lo hi (some ⟨b, off + 1, none⟩) zs := fun hp => by
  obtain ⟨b', off', e, h1, h2, hc⟩ := h (by simp)
  simp only [Option.some.injEq, Addr.mk.injEq, and_true] at e
  obtain ⟨rfl, rfl⟩ := e
  exact ⟨b, off + 1, rfl, h1, h2, fun j hj => by
    have := hc (j + 1) (by simpa using hj)
    rw [show off + 1 + j = off + (j + 1) by omega]
    simpa using this⟩
theorem Clone_n (zs : List Int) (A : Option Addr) (n c : Nat) {l h : Nat} (w : World) (hr0 : Rd w l h A zs) (hn : n = zs.length) (hl : zs.length ≤ 1000000000000) :
    Calls Tryz.prog 85 #[.slice A n c] w fun e w' => ∃ v, e = .returned v ∧ Own w' w.heap.size w'.heap.size v zs ∧ Below w.heap.size w w' := by
  subst hn; exact Clone_any zs A c w hr0 hl
theorem iIsKeyBook_n (key pages : Int) (zs : List Int) (A : Option Addr) (n c : Nat) {l h : Nat} (w : World) (hr : Rd w l h A zs) (hn : n = zs.length) (hl : zs.length ≤ 9223372036854775806) (v : Bool) (hv : kbB key pages zs = v) :
    Calls Tryz.prog 15 #[.agg #[.int .i64 key, .int .i64 pages, .slice A n c]] w fun e w' => e = .returned (.bool v) ∧ Below w.heap.size w w' := by
  subst hn; exact iIsKeyBook_w key pages zs A c w hr hl v hv
def pbB (s : ByteArray) : Bool := pkB s.data.toList
def pbK (s : ByteArray) : Int := pkK s.data.toList
def pbP (s : ByteArray) : Int := pkP s.data.toList
def pbL (s : ByteArray) : List Int := pkL s.data.toList
theorem pk_len (s : List UInt8) : (pkL s).length ≤ 1048576 := by
  cases h : pkS s with
  | none => rw [(pk_none h).2.2.2]; simp
  | some x =>
    obtain ⟨k, p, u⟩ := x
    rw [(pk_some h).2.2.2]
    have := kb_most (pkS_text h).1
    omega
set_option maxRecDepth 100000 in
set_option maxHeartbeats 4000000 in
theorem iParseKeyBook_l (l : List UInt8) (w : World) (hl : l.length ≤ 1048576) (hS : Sen w) :
    Calls Tryz.prog 16 #[.string (str l)] w fun e w' => ∃ A c, e = .returned (.tuple #[.agg #[.int .i64 (pkK l), .int .i64 (pkP l), .slice A (pkL l).length c], .bool (pkB l)]) ∧
      Own w' w.heap.size w'.heap.size (.slice A (pkL l).length c) (pkL l) ∧ (pkL l).length ≤ 1048576 ∧ Below w.heap.size w w' := by
  obtain ⟨ZB, hZB⟩ : ∃ ZB, ZB = Obj.cells #[.int .i64 0, .int .i64 0, .slice none 0 0] 26 (0, 0) := ⟨_, rfl⟩
  have bZ0 : Bk (w.alloc ZB) w.heap.size 26 #[.int .i64 0, .int .i64 0, .slice none 0 0] := by rw [hZB]; exact Bk.new w _ _
  have hs0 : (w.alloc ZB).heap.size = w.heap.size + 1 := by simp
  have hBa := (Below.refl w.heap.size w).alloc (Nat.le_refl _) ZB
  have hSa := hS.alloc ZB
  have hla := (cut_len 32 l).1
  have hlb := (cut_len 32 l).2
  have hlen := Lib.hid (pk_len l)
  cases h1 : rnO (cutA 32 l) with
  | none =>
    cases h2 : rnL (splitL 45 (cutB 32 l)) with
    | none =>
      have hno := Lib.hid (pk_none (s := l) (by unfold pkS; rw [h1]))
      go_enter Tryz.func16, Tryz.ntmps16
      go_wp2_with fail
      rw [← hZB]
      (with_reducible refine (cut_call 32 l _ (by omega) hSa).mono ?_)
      rintro e w1 ⟨cv, rfl, hb1⟩
      have s1 : w.heap.size + 1 ≤ w1.heap.size := by have := hb1.size; omega
      have hB1 := hBa.trans (hb1.mono (by omega))
      have bZ1 := bZ0.st hb1
      have hS1 := hSa.st hb1
      clear hb1 bZ0 hBa hSa hs0
      go_wp2_with fail
      (with_reducible refine (readNumber_none (cutA 32 l) _ (by omega) hS1 h1).mono ?_)
      rintro e w2 ⟨rfl, hb2⟩
      have s2 := hb2.size
      have hB2 := hB1.trans (hb2.mono (by omega))
      have bZ2 := bZ1.st hb2
      have hS2 := hS1.st hb2
      clear hb2 hB1 bZ1 hS1
      go_wp2_with fail
      (with_reducible refine (splitNumbers_none (cutB 32 l) 45 _ (by omega) hS2 h2).mono ?_)
      rintro e w3 ⟨rfl, hb3⟩
      have s3 := hb3.size
      have hB3 := Lib.hid (hB2.trans (hb3.mono (by omega)))
      have bZ := bZ2.st hb3
      clear hB2 bZ2 hS2
      clear hb3
      have t0 := bZ.cell 0
      have t1 := bZ.cell 1
      have t2 := bZ.cell 2
      have f0 := bZ.frozen 0
      have f1 := bZ.frozen 1
      have f2 := bZ.frozen 2
      simp at t0 t1 t2
      clear bZ
      go_wp2_with fail
      refine bodyPost_ret (v := .tuple #[.agg #[.int .i64 0, .int .i64 0, .slice none 0 0], .bool false]) (by simp [results, Tryz.results16, go_sem, t0, t1, t2]) rfl ?_
      refine ⟨none, 0, by rw [hno.out.1, hno.out.2.1, hno.out.2.2.1, hno.out.2.2.2]; rfl, by rw [hno.out.2.2.2]; exact Own.nil, hlen.out, ?_⟩
      exact ((hB3.out.setCell (by dsimp only; omega) _).setCell (by dsimp only; omega) _).setCell (by dsimp only; omega) _
    | some ns =>
      have hno := Lib.hid (pk_none (s := l) (by unfold pkS; rw [h1]))
      go_enter Tryz.func16, Tryz.ntmps16
      go_wp2_with fail
      rw [← hZB]
      (with_reducible refine (cut_call 32 l _ (by omega) hSa).mono ?_)
      rintro e w1 ⟨cv, rfl, hb1⟩
      have s1 : w.heap.size + 1 ≤ w1.heap.size := by have := hb1.size; omega
      have hB1 := hBa.trans (hb1.mono (by omega))
      have bZ1 := bZ0.st hb1
      have hS1 := hSa.st hb1
      clear hb1 bZ0 hBa hSa hs0
      go_wp2_with fail
      (with_reducible refine (readNumber_none (cutA 32 l) _ (by omega) hS1 h1).mono ?_)
      rintro e w2 ⟨rfl, hb2⟩
      have s2 := hb2.size
      have hB2 := hB1.trans (hb2.mono (by omega))
      have bZ2 := bZ1.st hb2
      have hS2 := hS1.st hb2
      clear hb2 hB1 bZ1 hS1
      go_wp2_with fail
      (with_reducible refine (splitNumbers_yes (cutB 32 l) 45 _ (by omega) hS2 ns h2).mono ?_)
      rintro e w3 ⟨A3, c3, rfl, ho3, hb3⟩
      have s3 := hb3.size
      have hB3 := Lib.hid (hB2.trans (hb3.mono (by omega)))
      have bZ := bZ2.st hb3
      clear hB2 bZ2 hS2
      clear hb3 ho3
      have t0 := bZ.cell 0
      have t1 := bZ.cell 1
      have t2 := bZ.cell 2
      have f0 := bZ.frozen 0
      have f1 := bZ.frozen 1
      have f2 := bZ.frozen 2
      simp at t0 t1 t2
      clear bZ
      go_wp2_with fail
      refine bodyPost_ret (v := .tuple #[.agg #[.int .i64 0, .int .i64 0, .slice none 0 0], .bool false]) (by simp [results, Tryz.results16, go_sem, t0, t1, t2]) rfl ?_
      refine ⟨none, 0, by rw [hno.out.1, hno.out.2.1, hno.out.2.2.1, hno.out.2.2.2]; rfl, by rw [hno.out.2.2.2]; exact Own.nil, hlen.out, ?_⟩
      exact ((hB3.out.setCell (by dsimp only; omega) _).setCell (by dsimp only; omega) _).setCell (by dsimp only; omega) _
  | some k =>
    cases h2 : rnL (splitL 45 (cutB 32 l)) with
    | none =>
      have hno := Lib.hid (pk_none (s := l) (by unfold pkS; rw [h1, h2]))
      go_enter Tryz.func16, Tryz.ntmps16
      go_wp2_with fail
      rw [← hZB]
      (with_reducible refine (cut_call 32 l _ (by omega) hSa).mono ?_)
      rintro e w1 ⟨cv, rfl, hb1⟩
      have s1 : w.heap.size + 1 ≤ w1.heap.size := by have := hb1.size; omega
      have hB1 := hBa.trans (hb1.mono (by omega))
      have bZ1 := bZ0.st hb1
      have hS1 := hSa.st hb1
      clear hb1 bZ0 hBa hSa hs0
      go_wp2_with fail
      (with_reducible refine (readNumber_some (cutA 32 l) _ (by omega) hS1 k h1).mono ?_)
      rintro e w2 ⟨rfl, hb2⟩
      have s2 := hb2.size
      have hB2 := hB1.trans (hb2.mono (by omega))
      have bZ2 := bZ1.st hb2
      have hS2 := hS1.st hb2
      clear hb2 hB1 bZ1 hS1
      go_wp2_with fail
      (with_reducible refine (splitNumbers_none (cutB 32 l) 45 _ (by omega) hS2 h2).mono ?_)
      rintro e w3 ⟨rfl, hb3⟩
      have s3 := hb3.size
      have hB3 := Lib.hid (hB2.trans (hb3.mono (by omega)))
      have bZ := bZ2.st hb3
      clear hB2 bZ2 hS2
      clear hb3
      have t0 := bZ.cell 0
      have t1 := bZ.cell 1
      have t2 := bZ.cell 2
      have f0 := bZ.frozen 0
      have f1 := bZ.frozen 1
      have f2 := bZ.frozen 2
      simp at t0 t1 t2
      clear bZ
      go_wp2_with fail
      refine bodyPost_ret (v := .tuple #[.agg #[.int .i64 0, .int .i64 0, .slice none 0 0], .bool false]) (by simp [results, Tryz.results16, go_sem, t0, t1, t2]) rfl ?_
      refine ⟨none, 0, by rw [hno.out.1, hno.out.2.1, hno.out.2.2.1, hno.out.2.2.2]; rfl, by rw [hno.out.2.2.2]; exact Own.nil, hlen.out, ?_⟩
      exact ((hB3.out.setCell (by dsimp only; omega) _).setCell (by dsimp only; omega) _).setCell (by dsimp only; omega) _
    | some ns =>
      cases ns with
      | nil => exact absurd rfl (rnL_text h2).2.1
      | cons p u =>
        go_enter Tryz.func16, Tryz.ntmps16
        go_wp2_with fail
        rw [← hZB]
        (with_reducible refine (cut_call 32 l _ (by omega) hSa).mono ?_)
        rintro e w1 ⟨cv, rfl, hb1⟩
        have s1 : w.heap.size + 1 ≤ w1.heap.size := by have := hb1.size; omega
        have hB1 := hBa.trans (hb1.mono (by omega))
        have bZ1 := bZ0.st hb1
        have hS1 := hSa.st hb1
        clear hb1 bZ0 hBa hSa hs0
        go_wp2_with fail
        (with_reducible refine (readNumber_some (cutA 32 l) _ (by omega) hS1 k h1).mono ?_)
        rintro e w2 ⟨rfl, hb2⟩
        have s2 := hb2.size
        have hB2 := hB1.trans (hb2.mono (by omega))
        have bZ2 := bZ1.st hb2
        have hS2 := hS1.st hb2
        clear hb2 hB1 bZ1 hS1
        go_wp2_with fail
        (with_reducible refine (splitNumbers_yes (cutB 32 l) 45 _ (by omega) hS2 (p :: u) h2).mono ?_)
        rintro e w3 ⟨A3, c3, rfl, ho3, hb3⟩
        have s3 := hb3.size
        have hB3 := Lib.hid (hB2.trans (hb3.mono (by omega)))
        have bZ := bZ2.st hb3
        clear hB2 bZ2 hS2
        obtain ⟨g, c3', he, hg1, hg2, hg3, hcl, -⟩ := ho3.at_ (by simp)
        have hcp : u.length + 1 ≤ c3 := by have := ho3.len.2; simpa using this
        have hcp2 : (u.length : Int) + 1 ≤ (c3 : Int) := by omega
        have hcp3 : (1 : Int) ≤ (u.length : Int) + 1 := by omega
        obtain ⟨rfl, hcc⟩ : A3 = some ⟨g, 0, none⟩ ∧ c3 = c3' := by injection he with e1 e2 e3; exact ⟨e1, e3⟩
        clear he hcc c3'
        have x0 := hcl 0 (by simp)
        simp at x0
        have hrt0 := (ho3.rd'.tail).std
        clear hcl ho3 hb3
        have hB0 : Below w3.heap.size w3 w3 := Below.refl _ _
        have hp0 : (0 : Int) ≤ (u.length : Int) := by omega
        have hul : u.length ≤ 1048576 := by
          have h5 := congrArg List.length (rnL_some h2)
          simp [splitL_length] at h5
          have := List.count_le_length (a := (45 : UInt8)) (l := cutB 32 l)
          omega
        by_cases hc1 : c3 = 1
        · subst hc1
          obtain rfl : u = [] := List.eq_nil_of_length_eq_zero (by omega)
          have hrt : Rd w3 0 w3.heap.size (some ⟨g, 0, none⟩) [] := Rd.nil
          clear hrt0
          go_wp2_with fail
          go_region_held3 (fun w' => w'.cell? ⟨g, 0, none⟩ = some (.int .i64 p))
            (((try go_split_ands); (try dsimp only); (repeat' apply And.intro) <;> (first | assumption | ((refine (Below.cell (B := w3.heap.size) (w := w3) ?_ (by dsimp only; omega)).trans ?_) <;> first | assumption | (repeat first | exact Below.refl _ _ | exact hBx.out | refine Below.drew ?_ | refine Below.alloc ?_ (by first | omega | (simp <;> omega)) _ | refine Below.setCell ?_ (by first | (dsimp only; omega) | (simp <;> omega)) _)))))
            (first
              | (go_at_call 85; ((with_reducible refine (Clone_n [] (some ⟨g, 0, none⟩) 0 (0) _ (by first | exact hrt.drew | exact (hrt.alloc _).drew) rfl (by first | omega | simp)).mono ?_); rintro e w4 ⟨v4, rfl, ho4, hb4⟩); (obtain ⟨A4, c4, rfl, -, -⟩ := ho4.rd);
                  (have hBx : Hid (Below w3.heap.size w3 w4) := Lib.hid (by first | exact hB0.drew.trans hb4 | exact ((hB0.alloc (Nat.le_refl _) _).drew).trans (hb4.mono (by simp)))); (have s4 := hBx.out.size);
                  (first | ((have bq := ((Bk.new w3 26 #[.int .i64 0, .int .i64 0, .slice none 0 0]).drew).st hb4); (have q0 := bq.cell 0); (have q1 := bq.cell 1); (have q2 := bq.cell 2); (have g0 := bq.frozen 0); (have g1 := bq.frozen 1); (have g2 := bq.frozen 2); (have ql := bq.lt); (simp at q0 q1 q2)) | skip))
              | fail)
          · skip
            obtain ⟨W5, hW5⟩ : ∃ W5, W5 = w4.alloc (.cells #[.int .i64 k, .int .i64 p, .slice A4 0 c4] 26) := ⟨_, rfl⟩
            have bk : Bk W5 w4.heap.size 26 #[.int .i64 k, .int .i64 p, .slice A4 0 c4] := by rw [hW5]; exact Bk.new w4 _ _
            have ho5 : Own W5 w3.heap.size w4.heap.size (.slice A4 0 c4) [] := by rw [hW5]; exact (ho4.alloc _).mono (by simp) (Nat.le_refl _)
            have hB5 : Below w3.heap.size w3 W5 := by rw [hW5]; exact hBx.out.alloc s4 _
            have hne : w.heap.size < w4.heap.size := by omega
            rw [← hW5]
            have s5 := hB5.size
            have h45 : w4.heap.size ≤ W5.heap.size := by rw [hW5]; simp [size_setCell]
            have bZ5 := bZ.st hB5
            have hB6 := Lib.hid (hB3.out.trans (hB5.mono (by omega)))
            have y0 := bk.cell 0
            have y1 := bk.cell 1
            have y2 := bk.cell 2
            simp at y0 y1 y2
            have ho5H := Lib.hid ho5
            have hrd5 := ho5.rd'
            clear hW5 bZ x0 hrt hB5 ho4 hb4 hBx hB0 ho5
            go_wp2_with fail
            cases hk : kbB k p [] with
            | false =>
              (with_reducible refine (iIsKeyBook_n k p [] A4 0 c4 _ hrd5 rfl (by first | omega | simp) _ hk).mono ?_)
              rintro e w6 ⟨rfl, hb6⟩
              have s6 := hb6.size
              have hB7 := Lib.hid (hB6.out.trans (hb6.mono (by omega)))
              have bZ := bZ5.st hb6
              have hno := Lib.hid (pk_none (s := l) (by unfold pkS; rw [h1, h2]; simp [hk]))
              clear hb6 bZ5 bk hrd5 y0 y1 y2
              have t0 := bZ.cell 0
              have t1 := bZ.cell 1
              have t2 := bZ.cell 2
              have f0 := bZ.frozen 0
              have f1 := bZ.frozen 1
              have f2 := bZ.frozen 2
              simp at t0 t1 t2
              clear bZ
              go_wp2_with fail
              refine bodyPost_ret (v := .tuple #[.agg #[.int .i64 0, .int .i64 0, .slice none 0 0], .bool false]) (by simp [results, Tryz.results16, go_sem, t0, t1, t2]) rfl ?_
              refine ⟨none, 0, by rw [hno.out.1, hno.out.2.1, hno.out.2.2.1, hno.out.2.2.2]; rfl, by rw [hno.out.2.2.2]; exact Own.nil, hlen.out, ?_⟩
              exact ((hB7.out.setCell (by dsimp only; omega) _).setCell (by dsimp only; omega) _).setCell (by dsimp only; omega) _
            | true =>
              (with_reducible refine (iIsKeyBook_n k p [] A4 0 c4 _ hrd5 rfl (by first | omega | simp) _ hk).mono ?_)
              rintro e w6 ⟨rfl, hb6⟩
              have s6 := hb6.size
              have hB7 := Lib.hid (hB6.out.trans (hb6.mono (by omega)))
              have bZ := bZ5.st hb6
              have bk6 := bk.st hb6
              have hyes := Lib.hid (pk_some (s := l) (k := k) (p := p) (u := []) (by unfold pkS; rw [h1, h2]; simp [hk]))
              have ho6 := ho5H.out.st hb6
              have v0 := bk6.cell 0
              have v1 := bk6.cell 1
              have v2 := bk6.cell 2
              have t0 := bZ.cell 0
              have t1 := bZ.cell 1
              have t2 := bZ.cell 2
              have f0 := bZ.frozen 0
              have f1 := bZ.frozen 1
              have f2 := bZ.frozen 2
              have ql := bZ.lt
              simp at v0 v1 v2 t0 t1 t2
              have ho7 := Lib.hid ((((ho6.setCell (p := ⟨w.heap.size, 0, none⟩) (.inl (by dsimp only; omega)) (.int .i64 k)).setCell (p := ⟨w.heap.size, 1, none⟩) (.inl (by dsimp only; omega)) (.int .i64 p)).setCell (p := ⟨w.heap.size, 2, none⟩) (.inl (by dsimp only; omega)) (.slice A4 0 c4)).mono (show w.heap.size ≤ w3.heap.size by omega) (show w4.heap.size ≤ (((w6.setCell ⟨w.heap.size, 0, none⟩ (.int .i64 k)).setCell ⟨w.heap.size, 1, none⟩ (.int .i64 p)).setCell ⟨w.heap.size, 2, none⟩ (.slice A4 0 c4)).heap.size by simp only [size_setCell]; omega))
              clear hb6 bZ5 bk bk6 bZ hrd5 y0 y1 y2 ho6
              go_wp2_with fail
              refine bodyPost_ret (v := .tuple #[.agg #[.int .i64 k, .int .i64 p, .slice A4 0 c4], .bool true]) (by simp [results, Tryz.results16, go_sem, t0, t1, t2]) rfl ?_
              refine ⟨A4, c4, by rw [hyes.out.1, hyes.out.2.1, hyes.out.2.2.1, hyes.out.2.2.2]; try rfl, by rw [hyes.out.2.2.2]; exact ho7.out, hlen.out, ?_⟩
              exact ((hB7.out.setCell (by dsimp only; omega) _).setCell (by dsimp only; omega) _).setCell (by dsimp only; omega) _
          · skip
            obtain ⟨W5, hW5⟩ : ∃ W5, W5 = ((w4.setCell ⟨w3.heap.size, 0, none⟩ (.int .i64 k)).setCell ⟨w3.heap.size, 1, none⟩ (.int .i64 p)).setCell ⟨w3.heap.size, 2, none⟩ (.slice A4 0 c4) := ⟨_, rfl⟩
            have bk : Bk W5 w3.heap.size 26 #[.int .i64 k, .int .i64 p, .slice A4 0 c4] := by rw [hW5]; simpa using ((bq.set_ 0 (.int .i64 k)).set_ 1 (.int .i64 p)).set_ 2 (.slice A4 0 c4)
            have ho5 : Own W5 w3.heap.size w4.heap.size (.slice A4 0 c4) [] := by
              rw [hW5]
              exact (((ho4.setCell (p := ⟨w3.heap.size, 0, none⟩) (.inl (by simp)) _).setCell (p := ⟨w3.heap.size, 1, none⟩) (.inl (by simp)) _).setCell (p := ⟨w3.heap.size, 2, none⟩) (.inl (by simp)) _).mono (by simp) (Nat.le_refl _)
            have hB5 : Below w3.heap.size w3 W5 := by
              rw [hW5]
              exact ((hBx.out.setCell (p := ⟨w3.heap.size, 0, none⟩) (Nat.le_refl _) _).setCell (p := ⟨w3.heap.size, 1, none⟩) (Nat.le_refl _) _).setCell (p := ⟨w3.heap.size, 2, none⟩) (Nat.le_refl _) _
            have hne : w.heap.size < w3.heap.size := by omega
            rw [← hW5]
            have s5 := hB5.size
            have h45 : w4.heap.size ≤ W5.heap.size := by rw [hW5]; simp [size_setCell]
            have bZ5 := bZ.st hB5
            have hB6 := Lib.hid (hB3.out.trans (hB5.mono (by omega)))
            have y0 := bk.cell 0
            have y1 := bk.cell 1
            have y2 := bk.cell 2
            simp at y0 y1 y2
            have ho5H := Lib.hid ho5
            have hrd5 := ho5.rd'
            clear hW5 bZ x0 hrt hB5 ho4 hb4 hBx hB0 ho5 bq q0 q1 q2 g0 g1 g2 ql
            go_wp2_with fail
            cases hk : kbB k p [] with
            | false =>
              (with_reducible refine (iIsKeyBook_n k p [] A4 0 c4 _ hrd5 rfl (by first | omega | simp) _ hk).mono ?_)
              rintro e w6 ⟨rfl, hb6⟩
              have s6 := hb6.size
              have hB7 := Lib.hid (hB6.out.trans (hb6.mono (by omega)))
              have bZ := bZ5.st hb6
              have hno := Lib.hid (pk_none (s := l) (by unfold pkS; rw [h1, h2]; simp [hk]))
              clear hb6 bZ5 bk hrd5 y0 y1 y2
              have t0 := bZ.cell 0
              have t1 := bZ.cell 1
              have t2 := bZ.cell 2
              have f0 := bZ.frozen 0
              have f1 := bZ.frozen 1
              have f2 := bZ.frozen 2
              simp at t0 t1 t2
              clear bZ
              go_wp2_with fail
              refine bodyPost_ret (v := .tuple #[.agg #[.int .i64 0, .int .i64 0, .slice none 0 0], .bool false]) (by simp [results, Tryz.results16, go_sem, t0, t1, t2]) rfl ?_
              refine ⟨none, 0, by rw [hno.out.1, hno.out.2.1, hno.out.2.2.1, hno.out.2.2.2]; rfl, by rw [hno.out.2.2.2]; exact Own.nil, hlen.out, ?_⟩
              exact ((hB7.out.setCell (by dsimp only; omega) _).setCell (by dsimp only; omega) _).setCell (by dsimp only; omega) _
            | true =>
              (with_reducible refine (iIsKeyBook_n k p [] A4 0 c4 _ hrd5 rfl (by first | omega | simp) _ hk).mono ?_)
              rintro e w6 ⟨rfl, hb6⟩
              have s6 := hb6.size
              have hB7 := Lib.hid (hB6.out.trans (hb6.mono (by omega)))
              have bZ := bZ5.st hb6
              have bk6 := bk.st hb6
              have hyes := Lib.hid (pk_some (s := l) (k := k) (p := p) (u := []) (by unfold pkS; rw [h1, h2]; simp [hk]))
              have ho6 := ho5H.out.st hb6
              have v0 := bk6.cell 0
              have v1 := bk6.cell 1
              have v2 := bk6.cell 2
              have t0 := bZ.cell 0
              have t1 := bZ.cell 1
              have t2 := bZ.cell 2
              have f0 := bZ.frozen 0
              have f1 := bZ.frozen 1
              have f2 := bZ.frozen 2
              have ql := bZ.lt
              simp at v0 v1 v2 t0 t1 t2
              have ho7 := Lib.hid ((((ho6.setCell (p := ⟨w.heap.size, 0, none⟩) (.inl (by dsimp only; omega)) (.int .i64 k)).setCell (p := ⟨w.heap.size, 1, none⟩) (.inl (by dsimp only; omega)) (.int .i64 p)).setCell (p := ⟨w.heap.size, 2, none⟩) (.inl (by dsimp only; omega)) (.slice A4 0 c4)).mono (show w.heap.size ≤ w3.heap.size by omega) (show w4.heap.size ≤ (((w6.setCell ⟨w.heap.size, 0, none⟩ (.int .i64 k)).setCell ⟨w.heap.size, 1, none⟩ (.int .i64 p)).setCell ⟨w.heap.size, 2, none⟩ (.slice A4 0 c4)).heap.size by simp only [size_setCell]; omega))
              clear hb6 bZ5 bk bk6 bZ hrd5 y0 y1 y2 ho6
              go_wp2_with fail
              refine bodyPost_ret (v := .tuple #[.agg #[.int .i64 k, .int .i64 p, .slice A4 0 c4], .bool true]) (by simp [results, Tryz.results16, go_sem, t0, t1, t2]) rfl ?_
              refine ⟨A4, c4, by rw [hyes.out.1, hyes.out.2.1, hyes.out.2.2.1, hyes.out.2.2.2]; try rfl, by rw [hyes.out.2.2.2]; exact ho7.out, hlen.out, ?_⟩
              exact ((hB7.out.setCell (by dsimp only; omega) _).setCell (by dsimp only; omega) _).setCell (by dsimp only; omega) _
        · have hrt := hrt0
          clear hrt0
          go_wp2_with fail
          go_region_held3 (fun w' => w'.cell? ⟨g, 0, none⟩ = some (.int .i64 p))
            (((try go_split_ands); (try dsimp only); (repeat' apply And.intro) <;> (first | assumption | ((refine (Below.cell (B := w3.heap.size) (w := w3) ?_ (by dsimp only; omega)).trans ?_) <;> first | assumption | (repeat first | exact Below.refl _ _ | exact hBx.out | refine Below.drew ?_ | refine Below.alloc ?_ (by first | omega | (simp <;> omega)) _ | refine Below.setCell ?_ (by first | (dsimp only; omega) | (simp <;> omega)) _)))))
            (first
              | (go_at_call 85; ((with_reducible refine (Clone_n u (some ⟨g, 1, none⟩) u.length (c3 - 1) _ (by first | exact hrt.drew | exact (hrt.alloc _).drew) rfl (by first | omega | simp)).mono ?_); rintro e w4 ⟨v4, rfl, ho4, hb4⟩); (obtain ⟨A4, c4, rfl, -, -⟩ := ho4.rd);
                  (have hBx : Hid (Below w3.heap.size w3 w4) := Lib.hid (by first | exact hB0.drew.trans hb4 | exact ((hB0.alloc (Nat.le_refl _) _).drew).trans (hb4.mono (by simp)))); (have s4 := hBx.out.size);
                  (first | ((have bq := ((Bk.new w3 26 #[.int .i64 0, .int .i64 0, .slice none 0 0]).drew).st hb4); (have q0 := bq.cell 0); (have q1 := bq.cell 1); (have q2 := bq.cell 2); (have g0 := bq.frozen 0); (have g1 := bq.frozen 1); (have g2 := bq.frozen 2); (have ql := bq.lt); (simp at q0 q1 q2)) | skip))
              | fail)
          · skip
            obtain ⟨W5, hW5⟩ : ∃ W5, W5 = w4.alloc (.cells #[.int .i64 k, .int .i64 p, .slice A4 u.length c4] 26) := ⟨_, rfl⟩
            have bk : Bk W5 w4.heap.size 26 #[.int .i64 k, .int .i64 p, .slice A4 u.length c4] := by rw [hW5]; exact Bk.new w4 _ _
            have ho5 : Own W5 w3.heap.size w4.heap.size (.slice A4 u.length c4) u := by rw [hW5]; exact (ho4.alloc _).mono (by simp) (Nat.le_refl _)
            have hB5 : Below w3.heap.size w3 W5 := by rw [hW5]; exact hBx.out.alloc s4 _
            have hne : w.heap.size < w4.heap.size := by omega
            rw [← hW5]
            have s5 := hB5.size
            have h45 : w4.heap.size ≤ W5.heap.size := by rw [hW5]; simp [size_setCell]
            have bZ5 := bZ.st hB5
            have hB6 := Lib.hid (hB3.out.trans (hB5.mono (by omega)))
            have y0 := bk.cell 0
            have y1 := bk.cell 1
            have y2 := bk.cell 2
            simp at y0 y1 y2
            have ho5H := Lib.hid ho5
            have hrd5 := ho5.rd'
            clear hW5 bZ x0 hrt hB5 ho4 hb4 hBx hB0 ho5
            go_wp2_with fail
            cases hk : kbB k p u with
            | false =>
              (with_reducible refine (iIsKeyBook_n k p u A4 u.length c4 _ hrd5 rfl (by first | omega | simp) _ hk).mono ?_)
              rintro e w6 ⟨rfl, hb6⟩
              have s6 := hb6.size
              have hB7 := Lib.hid (hB6.out.trans (hb6.mono (by omega)))
              have bZ := bZ5.st hb6
              have hno := Lib.hid (pk_none (s := l) (by unfold pkS; rw [h1, h2]; simp [hk]))
              clear hb6 bZ5 bk hrd5 y0 y1 y2
              have t0 := bZ.cell 0
              have t1 := bZ.cell 1
              have t2 := bZ.cell 2
              have f0 := bZ.frozen 0
              have f1 := bZ.frozen 1
              have f2 := bZ.frozen 2
              simp at t0 t1 t2
              clear bZ
              go_wp2_with fail
              refine bodyPost_ret (v := .tuple #[.agg #[.int .i64 0, .int .i64 0, .slice none 0 0], .bool false]) (by simp [results, Tryz.results16, go_sem, t0, t1, t2]) rfl ?_
              refine ⟨none, 0, by rw [hno.out.1, hno.out.2.1, hno.out.2.2.1, hno.out.2.2.2]; rfl, by rw [hno.out.2.2.2]; exact Own.nil, hlen.out, ?_⟩
              exact ((hB7.out.setCell (by dsimp only; omega) _).setCell (by dsimp only; omega) _).setCell (by dsimp only; omega) _
            | true =>
              (with_reducible refine (iIsKeyBook_n k p u A4 u.length c4 _ hrd5 rfl (by first | omega | simp) _ hk).mono ?_)
              rintro e w6 ⟨rfl, hb6⟩
              have s6 := hb6.size
              have hB7 := Lib.hid (hB6.out.trans (hb6.mono (by omega)))
              have bZ := bZ5.st hb6
              have bk6 := bk.st hb6
              have hyes := Lib.hid (pk_some (s := l) (k := k) (p := p) (u := u) (by unfold pkS; rw [h1, h2]; simp [hk]))
              have ho6 := ho5H.out.st hb6
              have v0 := bk6.cell 0
              have v1 := bk6.cell 1
              have v2 := bk6.cell 2
              have t0 := bZ.cell 0
              have t1 := bZ.cell 1
              have t2 := bZ.cell 2
              have f0 := bZ.frozen 0
              have f1 := bZ.frozen 1
              have f2 := bZ.frozen 2
              have ql := bZ.lt
              simp at v0 v1 v2 t0 t1 t2
              have ho7 := Lib.hid ((((ho6.setCell (p := ⟨w.heap.size, 0, none⟩) (.inl (by dsimp only; omega)) (.int .i64 k)).setCell (p := ⟨w.heap.size, 1, none⟩) (.inl (by dsimp only; omega)) (.int .i64 p)).setCell (p := ⟨w.heap.size, 2, none⟩) (.inl (by dsimp only; omega)) (.slice A4 u.length c4)).mono (show w.heap.size ≤ w3.heap.size by omega) (show w4.heap.size ≤ (((w6.setCell ⟨w.heap.size, 0, none⟩ (.int .i64 k)).setCell ⟨w.heap.size, 1, none⟩ (.int .i64 p)).setCell ⟨w.heap.size, 2, none⟩ (.slice A4 u.length c4)).heap.size by simp only [size_setCell]; omega))
              clear hb6 bZ5 bk bk6 bZ hrd5 y0 y1 y2 ho6
              go_wp2_with fail
              refine bodyPost_ret (v := .tuple #[.agg #[.int .i64 k, .int .i64 p, .slice A4 u.length c4], .bool true]) (by simp [results, Tryz.results16, go_sem, t0, t1, t2]) rfl ?_
              refine ⟨A4, c4, by rw [hyes.out.1, hyes.out.2.1, hyes.out.2.2.1, hyes.out.2.2.2]; try rfl, by rw [hyes.out.2.2.2]; exact ho7.out, hlen.out, ?_⟩
              exact ((hB7.out.setCell (by dsimp only; omega) _).setCell (by dsimp only; omega) _).setCell (by dsimp only; omega) _
          · skip
            obtain ⟨W5, hW5⟩ : ∃ W5, W5 = ((w4.setCell ⟨w3.heap.size, 0, none⟩ (.int .i64 k)).setCell ⟨w3.heap.size, 1, none⟩ (.int .i64 p)).setCell ⟨w3.heap.size, 2, none⟩ (.slice A4 u.length c4) := ⟨_, rfl⟩
            have bk : Bk W5 w3.heap.size 26 #[.int .i64 k, .int .i64 p, .slice A4 u.length c4] := by rw [hW5]; simpa using ((bq.set_ 0 (.int .i64 k)).set_ 1 (.int .i64 p)).set_ 2 (.slice A4 u.length c4)
            have ho5 : Own W5 w3.heap.size w4.heap.size (.slice A4 u.length c4) u := by
              rw [hW5]
              exact (((ho4.setCell (p := ⟨w3.heap.size, 0, none⟩) (.inl (by simp)) _).setCell (p := ⟨w3.heap.size, 1, none⟩) (.inl (by simp)) _).setCell (p := ⟨w3.heap.size, 2, none⟩) (.inl (by simp)) _).mono (by simp) (Nat.le_refl _)
            have hB5 : Below w3.heap.size w3 W5 := by
              rw [hW5]
              exact ((hBx.out.setCell (p := ⟨w3.heap.size, 0, none⟩) (Nat.le_refl _) _).setCell (p := ⟨w3.heap.size, 1, none⟩) (Nat.le_refl _) _).setCell (p := ⟨w3.heap.size, 2, none⟩) (Nat.le_refl _) _
            have hne : w.heap.size < w3.heap.size := by omega
            rw [← hW5]
            have s5 := hB5.size
            have h45 : w4.heap.size ≤ W5.heap.size := by rw [hW5]; simp [size_setCell]
            have bZ5 := bZ.st hB5
            have hB6 := Lib.hid (hB3.out.trans (hB5.mono (by omega)))
            have y0 := bk.cell 0
            have y1 := bk.cell 1
            have y2 := bk.cell 2
            simp at y0 y1 y2
            have ho5H := Lib.hid ho5
            have hrd5 := ho5.rd'
            clear hW5 bZ x0 hrt hB5 ho4 hb4 hBx hB0 ho5 bq q0 q1 q2 g0 g1 g2 ql
            go_wp2_with fail
            cases hk : kbB k p u with
            | false =>
              (with_reducible refine (iIsKeyBook_n k p u A4 u.length c4 _ hrd5 rfl (by first | omega | simp) _ hk).mono ?_)
              rintro e w6 ⟨rfl, hb6⟩
              have s6 := hb6.size
              have hB7 := Lib.hid (hB6.out.trans (hb6.mono (by omega)))
              have bZ := bZ5.st hb6
              have hno := Lib.hid (pk_none (s := l) (by unfold pkS; rw [h1, h2]; simp [hk]))
              clear hb6 bZ5 bk hrd5 y0 y1 y2
              have t0 := bZ.cell 0
              have t1 := bZ.cell 1
              have t2 := bZ.cell 2
              have f0 := bZ.frozen 0
              have f1 := bZ.frozen 1
              have f2 := bZ.frozen 2
              simp at t0 t1 t2
              clear bZ
              go_wp2_with fail
              refine bodyPost_ret (v := .tuple #[.agg #[.int .i64 0, .int .i64 0, .slice none 0 0], .bool false]) (by simp [results, Tryz.results16, go_sem, t0, t1, t2]) rfl ?_
              refine ⟨none, 0, by rw [hno.out.1, hno.out.2.1, hno.out.2.2.1, hno.out.2.2.2]; rfl, by rw [hno.out.2.2.2]; exact Own.nil, hlen.out, ?_⟩
              exact ((hB7.out.setCell (by dsimp only; omega) _).setCell (by dsimp only; omega) _).setCell (by dsimp only; omega) _
            | true =>
              (with_reducible refine (iIsKeyBook_n k p u A4 u.length c4 _ hrd5 rfl (by first | omega | simp) _ hk).mono ?_)
              rintro e w6 ⟨rfl, hb6⟩
              have s6 := hb6.size
              have hB7 := Lib.hid (hB6.out.trans (hb6.mono (by omega)))
              have bZ := bZ5.st hb6
              have bk6 := bk.st hb6
              have hyes := Lib.hid (pk_some (s := l) (k := k) (p := p) (u := u) (by unfold pkS; rw [h1, h2]; simp [hk]))
              have ho6 := ho5H.out.st hb6
              have v0 := bk6.cell 0
              have v1 := bk6.cell 1
              have v2 := bk6.cell 2
              have t0 := bZ.cell 0
              have t1 := bZ.cell 1
              have t2 := bZ.cell 2
              have f0 := bZ.frozen 0
              have f1 := bZ.frozen 1
              have f2 := bZ.frozen 2
              have ql := bZ.lt
              simp at v0 v1 v2 t0 t1 t2
              have ho7 := Lib.hid ((((ho6.setCell (p := ⟨w.heap.size, 0, none⟩) (.inl (by dsimp only; omega)) (.int .i64 k)).setCell (p := ⟨w.heap.size, 1, none⟩) (.inl (by dsimp only; omega)) (.int .i64 p)).setCell (p := ⟨w.heap.size, 2, none⟩) (.inl (by dsimp only; omega)) (.slice A4 u.length c4)).mono (show w.heap.size ≤ w3.heap.size by omega) (show w4.heap.size ≤ (((w6.setCell ⟨w.heap.size, 0, none⟩ (.int .i64 k)).setCell ⟨w.heap.size, 1, none⟩ (.int .i64 p)).setCell ⟨w.heap.size, 2, none⟩ (.slice A4 u.length c4)).heap.size by simp only [size_setCell]; omega))
              clear hb6 bZ5 bk bk6 bZ hrd5 y0 y1 y2 ho6
              go_wp2_with fail
              refine bodyPost_ret (v := .tuple #[.agg #[.int .i64 k, .int .i64 p, .slice A4 u.length c4], .bool true]) (by simp [results, Tryz.results16, go_sem, t0, t1, t2]) rfl ?_
              refine ⟨A4, c4, by rw [hyes.out.1, hyes.out.2.1, hyes.out.2.2.1, hyes.out.2.2.2]; try rfl, by rw [hyes.out.2.2.2]; exact ho7.out, hlen.out, ?_⟩
              exact ((hB7.out.setCell (by dsimp only; omega) _).setCell (by dsimp only; omega) _).setCell (by dsimp only; omega) _
end Go.Proofs.YtjhbffndiaggmaaGreatDoor

/-
  Contract of ParseKeyBook in the reference. The condition is a bound on the text's length.
-/
namespace Go.Proofs.YtjhbffndiaggmaaGreatDoor
open Go.RowKit Go.ChangeShapes Go.WideShapes
set_option linter.unusedVariables false
set_option linter.unusedSimpArgs false

/-- what a made slice of texts holds -/
theorem strR_at {w : World} {lo hi : Nat} {v : Value} {ps : List (List UInt8)} (h : OwnR w lo hi 9 1 v (strR ps)) : ∃ A c, v = .slice A ps.length c ∧ ps.length ≤ c ∧ c ≤ maxLen ∧ (0 < ps.length → ∃ g, A = some ⟨g, 0, none⟩ ∧ lo ≤ g ∧ g < hi ∧ g < w.heap.size ∧ ∀ j (h : j < ps.length), w.cell? ⟨g, j, none⟩ = some (.string (str ps[j]))) := by
  obtain ⟨A, c, rfl, h1, h2, -, h3⟩ := h.cells
  have hl : (strR ps).length = ps.length := by simp [strR]
  refine ⟨A, c, by rw [hl], by omega, h2, fun hp => ?_⟩
  obtain ⟨g, e, g1, g2, g3, -, hc⟩ := h3 (by omega)
  refine ⟨g, e, g1, g2, g3, fun j hj => ?_⟩
  have := hc j (by rw [hl]; exact hj) 0 (by omega)
  simpa [strR] using this
theorem l1Split_n (l : List UInt8) (b : UInt8) (n : Int) (hn : n = (b.toNat : Int)) (w : World) (hl : l.length ≤ 1048577) :
    Calls Tryz.prog 103 #[.string (str l), .int .u8 n] w fun e w' => ∃ A c, e = .returned (.slice A (splitL b l).length c) ∧ Hid ((splitL b l).length ≤ c ∧ c ≤ maxLen ∧ (0 < (splitL b l).length → ∃ g, A = some ⟨g, 0, none⟩ ∧ w.heap.size ≤ g ∧ g < w'.heap.size ∧ ∀ j (h : j < (splitL b l).length), w'.cell? ⟨g, j, none⟩ = some (.string (str (splitL b l)[j])))) ∧ Below w.heap.size w w' := by
  subst hn
  refine (l1Split_any l b w hl).mono ?_
  rintro e w' ⟨v, rfl, ho, hb⟩
  obtain ⟨A, c, rfl, h1, h2, h3⟩ := strR_at ho
  exact ⟨A, c, rfl, Lib.hid ⟨h1, h2, fun hp => by obtain ⟨g, e, g1, g2, g3, h⟩ := h3 hp; exact ⟨g, e, g1, g3, h⟩⟩, hb⟩
theorem kyGood_n (key pages : Int) (zs : List Int) (A : Option Addr) (n c : Nat) {l h : Nat} (w : World) (hr : Rd w l h A zs) (hn : n = zs.length) (hl : zs.length ≤ 9223372036854775806) (v : Bool) (hv : kbB key pages zs = v) :
    Calls Tryz.prog 74 #[.agg #[.int .i64 key, .int .i64 pages, .slice A n c]] w fun e w' => e = .returned (.bool v) ∧ Below w.heap.size w w' := by
  subst hn; exact kyGood_w key pages zs A c w hr hl v hv
theorem kyText_n (key pages : Int) (zs : List Int) (A : Option Addr) (n c : Nat) {l h : Nat} (w : World) (hr : Rd w l h A zs) (hn : n = zs.length) (hkb : kbB key pages zs = true) :
    Calls Tryz.prog 75 #[.agg #[.int .i64 key, .int .i64 pages, .slice A n c]] w fun e w' => e = .returned (.string (str (kbX key pages zs))) ∧ Below w.heap.size w w' := by
  subst hn; exact kyText_any key pages zs A c w hr hkb
theorem kyText_m (key pages : Int) (zs : List Int) (A : Option Addr) (n c : Nat) {l h : Nat} (w : World) (hr : Rd w l h A zs) (hn : n = zs.length) (hkb : kbB key pages zs = true) (s : List UInt8) (hs : kbX key pages zs = s) :
    Calls Tryz.prog 75 #[.agg #[.int .i64 key, .int .i64 pages, .slice A n c]] w fun e w' => e = .returned (.string (str s)) ∧ Below w.heap.size w w' := by
  rw [← hs]; exact kyText_n key pages zs A n c w hr hn hkb
set_option maxRecDepth 100000 in
set_option maxHeartbeats 4000000 in
theorem sParseKeyBook_l (l : List UInt8) (w : World) (hl : l.length ≤ 1048576) :
    Calls Tryz.prog 28 #[.string (str l)] w fun e w' => ∃ A c, e = .returned (.tuple #[.agg #[.int .i64 (pkK l), .int .i64 (pkP l), .slice A (pkL l).length c], .bool (pkB l)]) ∧
      Rd w' 0 w'.heap.size A (pkL l) ∧ (pkL l).length ≤ 1048576 ∧ Below w.heap.size w w' := by
  obtain ⟨ZB, hZB⟩ : ∃ ZB, ZB = Obj.cells #[.int .i64 0, .int .i64 0, .slice none 0 0] 26 (0, 0) := ⟨_, rfl⟩
  have bZ0 : Bk (w.alloc ZB) w.heap.size 26 #[.int .i64 0, .int .i64 0, .slice none 0 0] := by rw [hZB]; exact Bk.new w _ _
  have hs0 : (w.alloc ZB).heap.size = w.heap.size + 1 := by simp
  have hBa := (Below.refl w.heap.size w).alloc (Nat.le_refl _) ZB
  have hlen := Lib.hid (pk_len l)
  by_cases h2 : (splitL 32 l).length = 2
  · skip
    obtain ⟨a, r, har⟩ : ∃ a r, splitL 32 l = [a, r] := by
      match hm : splitL 32 l, h2 with
      | [a, r], _ => exact ⟨a, r, rfl⟩
    have hla : a.length ≤ l.length := splitL_piece_le 32 l a (by rw [har]; simp)
    have hlr : r.length ≤ l.length := splitL_piece_le 32 l r (by rw [har]; simp)
    clear h2
    cases q : inB (a.length : Int) 1 10 with
    | false =>
      have hno := Lib.hid (pk_none (pk_head har q))
      go_enter Tryz.func28, Tryz.ntmps28
      go_wp2_with fail
      rw [← hZB]
      (with_reducible refine (l1Split_n l 32 32 rfl _ (by omega)).mono ?_)
      rintro e w1 ⟨A1, c1, rfl, hx1, hb1⟩
      have s1 : w.heap.size + 1 ≤ w1.heap.size := by have := hb1.size; omega
      have hB1 := Lib.hid (hBa.trans (hb1.mono (by omega)))
      have bZ1 := bZ0.st hb1
      rw [hs0] at hx1
      obtain ⟨W, hW⟩ : ∃ W, splitL 32 l = W := ⟨_, rfl⟩
      rw [hW] at hx1 ⊢
      clear hb1 bZ0 hBa hs0
      rw [har] at hW
      subst hW
      obtain ⟨hc1, hm1, hg1⟩ := hx1.out
      obtain ⟨g1, rfl, k1, k2, hcl⟩ := hg1 (by simp)
      have x0 := hcl 0 (by simp)
      have x1 := hcl 1 (by simp)
      have xs : (str a).size = a.length := str_size a
      simp at x0 x1
      clear hx1 hg1 hcl
      go_wp2_with fail
      (with_reducible refine (l1In_u _ 1 10 _ _ q).mono ?_)
      rintro e w2 ⟨rfl, rfl⟩
      have bZ := bZ1
      have t0 := bZ.cell 0
      have t1 := bZ.cell 1
      have t2 := bZ.cell 2
      have f0 := bZ.frozen 0
      have f1 := bZ.frozen 1
      have f2 := bZ.frozen 2
      simp at t0 t1 t2
      clear bZ
      go_wp2_with fail
      refine bodyPost_ret (v := .tuple #[.agg #[.int .i64 0, .int .i64 0, .slice none 0 0], .bool false]) (by simp [results, Tryz.results28, go_sem, t0, t1, t2]) rfl ?_
      refine ⟨none, 0, by rw [hno.out.1, hno.out.2.1, hno.out.2.2.1, hno.out.2.2.2]; rfl, by rw [hno.out.2.2.2]; exact Rd.nil, hlen.out, ?_⟩
      exact ((hB1.out.setCell (by dsimp only; omega) _).setCell (by dsimp only; omega) _).setCell (by dsimp only; omega) _
    | true =>
      have hla10 : a.length ≤ 10 := by have := inB_iff.1 q; omega
      obtain ⟨n0, ns, hns⟩ : ∃ n0 ns, splitL 45 r = n0 :: ns := by
        cases hs : splitL 45 r with
        | nil => exact absurd hs (splitL_ne 45 r)
        | cons n0 ns => exact ⟨n0, ns, rfl⟩
      have hrd := Lib.hid (pk_read har hns)
      have hpl : ∀ p ∈ n0 :: ns, p.length ≤ 1048576 := fun p hp => by have := splitL_piece_le 45 r p (by rw [hns]; exact hp); omega
      have hnl : ns.length ≤ 1048576 := by
        have h5 := congrArg List.length hns
        rw [splitL_length, List.length_cons] at h5
        have := List.count_le_length (a := (45 : UInt8)) (l := r)
        omega
      go_enter Tryz.func28, Tryz.ntmps28
      go_wp2_with fail
      rw [← hZB]
      (with_reducible refine (l1Split_n l 32 32 rfl _ (by omega)).mono ?_)
      rintro e w1 ⟨A1, c1, rfl, hx1, hb1⟩
      have s1 : w.heap.size + 1 ≤ w1.heap.size := by have := hb1.size; omega
      have hB1 := Lib.hid (hBa.trans (hb1.mono (by omega)))
      have bZ1 := bZ0.st hb1
      rw [hs0] at hx1
      obtain ⟨W, hW⟩ : ∃ W, splitL 32 l = W := ⟨_, rfl⟩
      rw [hW] at hx1 ⊢
      clear hb1 bZ0 hBa hs0
      rw [har] at hW
      subst hW
      obtain ⟨hc1, hm1, hg1⟩ := hx1.out
      obtain ⟨g1, rfl, k1, k2, hcl⟩ := hg1 (by simp)
      have x0 := hcl 0 (by simp)
      have x1 := hcl 1 (by simp)
      have xs : (str a).size = a.length := str_size a
      simp at x0 x1
      clear hx1 hg1 hcl
      go_wp2_with fail
      (with_reducible refine (l1In_u _ 1 10 _ _ q).mono ?_)
      rintro e w2 ⟨rfl, rfl⟩
      clear q
      go_wp2_with fail
      (with_reducible refine (l1Split_n r 45 45 rfl _ (by omega)).mono ?_)
      rintro e w3 ⟨A3, c3, rfl, hx3, hb3⟩
      have s3 := hb3.size
      have hB3 := Lib.hid (hB1.out.trans (hb3.mono (by omega)))
      have bZ3 := bZ1.st hb3
      rw [hns] at hx3 ⊢
      obtain ⟨hc3, hm3, hg3⟩ := hx3.out
      obtain ⟨g3, rfl, k3, k4, hcl3⟩ := hg3 (by simp)
      have z0 := hcl3 0 (by simp)
      have x0' := ((bcell hb3).1 _ _ k2).trans x0
      simp at z0
      have hclH := Lib.hid hcl3
      have hl0 : n0.length ≤ 1048576 := hpl n0 (by simp)
      have hplH := Lib.hid (fun k (h : k < ns.length) => hpl ns[k] (by simp))
      have hB0 : Below w3.heap.size w3 w3 := Below.refl _ _
      have hc3' : ns.length + 1 ≤ c3 := by simpa using hc3
      have hc3i : (ns.length : Int) + 1 ≤ (c3 : Int) := by omega
      have hc3j : (1 : Int) ≤ (ns.length : Int) + 1 := by omega
      clear hx3 hg3 hb3 hcl3 x0 x1 bZ1 hB1 hpl hc3
      go_wp2_with fail
      go_region_held3 (fun w' => w'.cell? ⟨g1, 0, none⟩ = some (.string (str a)) ∧ w'.cell? ⟨g3, 0, none⟩ = some (.string (str n0)))
        (((try go_split_ands); (try dsimp only); (repeat' apply And.intro) <;> (first | assumption | ((refine (Below.cell (B := w3.heap.size) (w := w3) ?_ (by dsimp only; omega)).trans ?_) <;> first | assumption | (repeat first | exact Below.refl _ _ | refine Below.drew ?_ | refine Below.alloc ?_ (by first | omega | (simp <;> omega)) _ | refine Below.setCell ?_ (by first | (dsimp only; omega) | (simp <;> omega)) _)))))
        (first
          | (go_at_call 105; ((with_reducible refine (kyRead_any a _ hla10).mono ?_); rintro e w4 ⟨rfl, rfl⟩))
          | (go_at_call 106; ((with_reducible refine (l1Read_any n0 _ hl0).mono ?_); rintro e w4 ⟨rfl, rfl⟩))
          | fail)
      all_goals
        obtain ⟨W5, hW5⟩ : ∃ W5, W5 = (w3.alloc (.cells #[.int .i64 (kyR a), .int .i64 (l1R n0), .slice none 0 0] 26)).drew := ⟨_, rfl⟩
        have bk : Bk W5 w3.heap.size 26 #[.int .i64 (kyR a), .int .i64 (l1R n0), .slice none 0 0] := by rw [hW5]; exact (Bk.new w3 _ _).drew
        have hB5 : Below w3.heap.size w3 W5 := by rw [hW5]; exact ((Below.refl _ _).alloc (Nat.le_refl _) _).drew
        have s5 : w3.heap.size + 1 = W5.heap.size := by rw [hW5]; simp
        rw [← hW5]
        have hB6 := Lib.hid (hB3.out.trans (hB5.mono (by omega)))
        have bZ5 := bZ3.st hB5
        obtain ⟨AT, hAT⟩ : ∃ AT, (if c3 = 1 then some (⟨g3, 0, none⟩ : Addr) else some ⟨g3, 1, none⟩) = AT := ⟨_, rfl⟩
        have hATH : Hid (0 < ns.length → AT = some ⟨g3, 1, none⟩) := Lib.hid (fun h => by rw [← hAT, if_neg (by omega)])
        have hclS : Hid (∀ j (h : j < ns.length), w3.cell? ⟨g3, 1 + j, none⟩ = some (.string (str ns[j]))) := Lib.hid (fun j h => by
          have := hclH.out (j + 1) (by simp; omega)
          rw [show 1 + j = j + 1 by omega]
          simpa using this)
        have hB5H := Lib.hid hB5
        have bZ3H := Lib.hid bZ3
        clear hW5 hB5 hB0 bZ3 bZ5 hB6 z0 x0' hclH
        go_wp2_with fail
        clear hAT
        go_loopw [39] (fun i wr => ∃ (k : Nat) (A : Option Addr) (c : Nat), k ≤ ns.length ∧ i = .int .i64 k ∧ Bk wr w3.heap.size 26 #[.int .i64 (kyR a), .int .i64 (l1R n0), .slice A k c] ∧ Own wr (w3.heap.size + 1) wr.heap.size (.slice A k c) ((ns.take k).map l1R) ∧ Below w3.heap.size w3 wr) (fun i _ => ns.length - (intOf i).toNat)
        case atStart => exact ⟨0, none, 0, Nat.zero_le _, rfl, bk, Own.nil, hB5H.out⟩
        case round =>
          obtain ⟨k, A, c, hk, rfl, bkr, ownr, hbr⟩ := hrel
          have hszr := hbr.size
          have y2 := bkr.cell 2
          have f2 := bkr.frozen 2
          have hgl := bkr.lt
          simp at y2
          by_cases hlt : k < ns.length
          · obtain rfl := hATH.out (by omega)
            have x0 : wr.cell? ⟨g3, 1 + k, none⟩ = some (.string (str ns[k])) := (hbr.cell (p := ⟨g3, 1 + k, none⟩) k4).trans (hclS.out k hlt)
            have hpk := hplH.out k hlt
            have hlk : ((ns.take k).map l1R).length = k := by rw [List.length_map, List.length_take]; omega
            have hsn : (ns.take k).map l1R ++ [l1R ns[k]] = (ns.take (k + 1)).map l1R := by rw [List.take_succ_eq_append_getElem hlt, List.map_append]; rfl
            have hsnH := Lib.hid hsn
            have hlkH := Lib.hid hlk
            clear hsn hlk
            go_wp2_with fail
            go_region_law (first
              | (refine step_append_ints rfl (.tmp 44) (.tmp 47) rfl (v := .slice A k c) rfl (by first | exact ownr.alloc _ | exact (ownr.alloc _).drew) (ys := [l1R ns[k]]) rfl (by first | exact (Rd.one wr _ _ _ rfl).mono (Nat.zero_le _) (by simp) | exact ((Rd.one wr _ _ _ rfl).drew).mono (Nat.zero_le _) (by simp)) (by rw [hlkH.out]; simp; omega) (by simp <;> omega) ?_; intro v8 w8 ho8 hg8 hb8 hat8; (obtain ⟨A8, c8, rfl, -, -⟩ := ho8.rd); (rw [hsnH.out] at ho8);
                  (have bk8 := (show Bk _ w3.heap.size 26 #[.int .i64 (kyR a), .int .i64 (l1R n0), .slice A k c] from by first | exact (bkr.alloc _).below hb8 (by omega) | exact ((bkr.alloc _).drew).below hb8 (by omega)));
                  (have y8 := bk8.cell 2); (have f8 := bk8.frozen 2); (simp at y8))
              | (go_simp; (go_at_call 106; ((with_reducible refine (l1Read_any ns[k] _ hpk).mono ?_); rintro e w6 ⟨rfl, rfl⟩))))
            all_goals
              have hl8 : ((ns.take (k + 1)).map l1R).length = k + 1 := by rw [List.length_map, List.length_take]; omega
              rw [hl8] at ho8
              have hbkH : Hid (Bk (w8.setCell ⟨w3.heap.size, 2, none⟩ (.slice A8 (k + 1) c8)) w3.heap.size 26 #[.int .i64 (kyR a), .int .i64 (l1R n0), .slice A8 (k + 1) c8]) := Lib.hid (by simpa using bk8.set_ 2 (.slice A8 (k + 1) c8))
              have hoH := Lib.hid ((ho8.setCell (p := ⟨w3.heap.size, 2, none⟩) (.inl (by dsimp only; omega)) (.slice A8 (k + 1) c8)).mono (Nat.le_refl _) (show w8.heap.size ≤ (w8.setCell ⟨w3.heap.size, 2, none⟩ (.slice A8 (k + 1) c8)).heap.size by rw [size_setCell]; exact Nat.le_refl _))
              have hBH : Hid (Below w3.heap.size w3 (w8.setCell ⟨w3.heap.size, 2, none⟩ (.slice A8 (k + 1) c8))) := Lib.hid (by
                first
                  | exact ((((hbr.alloc hszr _).drew).trans (hb8.mono (by omega))).setCell (Nat.le_refl _) _)
                  | exact (((hbr.drew.alloc hszr _).trans (hb8.mono (by omega))).setCell (Nat.le_refl _) _))
              clear hl8 ho8 hg8 hb8 hat8 bk8 y8 f8 bkr ownr hbr y2 f2 x0
              go_wp2
              go_roundw
              case rel => exact ⟨k + 1, A8, c8, by omega, by go_num, hbkH.out, hoH.out, hBH.out⟩
              case measure => simp [intOf]; omega
          · obtain rfl : k = ns.length := by omega
            have htk : (ns.take ns.length).map l1R = ns.map l1R := by rw [List.take_length]
            rw [htk] at ownr
            have hBr := Lib.hid (hB3.out.trans (hbr.mono (by omega)))
            have bZr := bZ3H.out.st hbr
            have hur := ownr.rd'
            have hke2 : ns.length = (ns.map l1R).length := by rw [List.length_map]
            have y0 := bkr.cell 0
            have y1 := bkr.cell 1
            simp at y0 y1
            clear htk hbr
            obtain ⟨U, hU⟩ : ∃ U, ns.map l1R = U := ⟨_, rfl⟩
            have hrd2 := hrd.out
            rw [hU] at hur hke2 hrd2
            have hrdH := Lib.hid hrd2
            have hUl : U.length ≤ 1048576 := by rw [← hke2]; omega
            have hkeH := Lib.hid hke2
            clear hrd2 ownr hke2 hU
            go_wp2_with fail
            cases hkb : kbB (kyR a) (l1R n0) U with
            | false =>
              have hno := Lib.hid (pk_none (s := l) (by rw [hrdH.out]; simp [hkb]))
              (with_reducible refine (kyGood_n _ _ U A ns.length c _ hur hkeH.out (by omega) _ hkb).mono ?_)
              rintro e w6 ⟨rfl, hb6⟩
              have s6 := hb6.size
              have hB7 := Lib.hid (hBr.out.trans (hb6.mono (by omega)))
              have bZ := bZr.st hb6
              clear hb6 bZr bkr y0 y1 y2 f2
              have t0 := bZ.cell 0
              have t1 := bZ.cell 1
              have t2 := bZ.cell 2
              have f0 := bZ.frozen 0
              have f1 := bZ.frozen 1
              have f2 := bZ.frozen 2
              simp at t0 t1 t2
              clear bZ
              go_wp2_with fail
              refine bodyPost_ret (v := .tuple #[.agg #[.int .i64 0, .int .i64 0, .slice none 0 0], .bool false]) (by simp [results, Tryz.results28, go_sem, t0, t1, t2]) rfl ?_
              refine ⟨none, 0, by rw [hno.out.1, hno.out.2.1, hno.out.2.2.1, hno.out.2.2.2]; rfl, by rw [hno.out.2.2.2]; exact Rd.nil, hlen.out, ?_⟩
              exact ((hB7.out.setCell (by dsimp only; omega) _).setCell (by dsimp only; omega) _).setCell (by dsimp only; omega) _
            | true =>
              (with_reducible refine (kyGood_n _ _ U A ns.length c _ hur hkeH.out (by omega) _ hkb).mono ?_)
              rintro e w6 ⟨rfl, hb6⟩
              have s6 := hb6.size
              have hB7 := hBr.out.trans (hb6.mono (by omega))
              have bZ6 := bZr.st hb6
              have bk6 := bkr.st hb6
              have hu6 := hur.st hb6
              clear hb6 bZr bkr y0 y1 y2 f2 hur
              have v0 := bk6.cell 0
              have v1 := bk6.cell 1
              have v2 := bk6.cell 2
              have hgl6 := bk6.lt
              simp at v0 v1 v2
              go_wp2_with fail
              by_cases heq : kbX (kyR a) (l1R n0) U = l
              · have hyes := Lib.hid (pk_some (s := l) (k := kyR a) (p := l1R n0) (u := U) (by rw [hrdH.out, if_pos ⟨hkb, heq⟩]))
                (with_reducible refine (kyText_m _ _ U A ns.length c _ hu6 hkeH.out hkb l heq).mono ?_)
                rintro e w7 ⟨rfl, hb7⟩
                have s7 := hb7.size
                have hB8 := Lib.hid (hB7.trans (hb7.mono (by omega)))
                have bZ := bZ6.st hb7
                have bk7 := bk6.st hb7
                have hu7 := hu6.st hb7
                clear v0 v1 v2 hb7 bZ6 bk6 hu6
                have v0 := bk7.cell 0
                have v1 := bk7.cell 1
                have v2 := bk7.cell 2
                have t0 := bZ.cell 0
                have t1 := bZ.cell 1
                have t2 := bZ.cell 2
                have f0 := bZ.frozen 0
                have f1 := bZ.frozen 1
                have f2 := bZ.frozen 2
                have ql := bZ.lt
                simp at v0 v1 v2 t0 t1 t2
                obtain ⟨W9, hW9⟩ : ∃ W9, W9 = ((w7.setCell ⟨w.heap.size, 0, none⟩ (.int .i64 (kyR a))).setCell ⟨w.heap.size, 1, none⟩ (.int .i64 (l1R n0))).setCell ⟨w.heap.size, 2, none⟩ (.slice A ns.length c) := ⟨_, rfl⟩
                have hu9 : Rd W9 (w3.heap.size + 1) wr.heap.size A U := by
                  rw [hW9]
                  refine hu7.keep fun b o h1 h2 h3 => ?_
                  rw [World.cell?_setCell_other _ _ _ _ (by intro e; injection e with e1; omega), World.cell?_setCell_other _ _ _ _ (by intro e; injection e with e1; omega), World.cell?_setCell_other _ _ _ _ (by intro e; injection e with e1; omega)]
                have hu9H := Lib.hid hu9.std
                rw [hW9] at hu9H
                clear bk7 bZ hu7 hu9 hW9 W9
                go_wp2_with fail
                refine bodyPost_ret (v := .tuple #[.agg #[.int .i64 (kyR a), .int .i64 (l1R n0), .slice A ns.length c], .bool true]) (by simp [results, Tryz.results28, go_sem, t0, t1, t2]) rfl ?_
                refine ⟨A, c, by rw [hyes.out.1, hyes.out.2.1, hyes.out.2.2.1, hyes.out.2.2.2, ← hkeH.out], by rw [hyes.out.2.2.2]; exact hu9H.out, hlen.out, ?_⟩
                exact ((hB8.out.setCell (by dsimp only; omega) _).setCell (by dsimp only; omega) _).setCell (by dsimp only; omega) _
              · have hno := Lib.hid (pk_none (s := l) (by rw [hrdH.out, if_neg (fun h => heq h.2)]))
                have hne : ¬ str (kbX (kyR a) (l1R n0) U) = str l := fun e => heq (str_inj e)
                have hne2 : ((str (kbX (kyR a) (l1R n0) U)).toList == (str l).toList) = false := by
                  rw [beq_eq_false_iff_ne]
                  intro e
                  rw [ByteArray.toList_eq, ByteArray.toList_eq, str_toList, str_toList] at e
                  exact heq e
                (with_reducible refine (kyText_m _ _ U A ns.length c _ hu6 hkeH.out hkb _ rfl).mono ?_)
                rintro e w7 ⟨rfl, hb7⟩
                have s7 := hb7.size
                have hB8 := Lib.hid (hB7.trans (hb7.mono (by omega)))
                have bZ := bZ6.st hb7
                clear v0 v1 v2 hb7 bZ6 bk6 hu6 heq
                have t0 := bZ.cell 0
                have t1 := bZ.cell 1
                have t2 := bZ.cell 2
                have f0 := bZ.frozen 0
                have f1 := bZ.frozen 1
                have f2 := bZ.frozen 2
                simp at t0 t1 t2
                clear bZ
                go_wp2_with fail
                refine bodyPost_ret (v := .tuple #[.agg #[.int .i64 0, .int .i64 0, .slice none 0 0], .bool false]) (by simp [results, Tryz.results28, go_sem, t0, t1, t2]) rfl ?_
                refine ⟨none, 0, by rw [hno.out.1, hno.out.2.1, hno.out.2.2.1, hno.out.2.2.2]; rfl, by rw [hno.out.2.2.2]; exact Rd.nil, hlen.out, ?_⟩
                exact ((hB8.out.setCell (by dsimp only; omega) _).setCell (by dsimp only; omega) _).setCell (by dsimp only; omega) _
  · have hno := Lib.hid (pk_none (pk_two h2))
    go_enter Tryz.func28, Tryz.ntmps28
    go_wp2_with fail
    rw [← hZB]
    (with_reducible refine (l1Split_n l 32 32 rfl _ (by omega)).mono ?_)
    rintro e w1 ⟨A1, c1, rfl, hx1, hb1⟩
    have s1 : w.heap.size + 1 ≤ w1.heap.size := by have := hb1.size; omega
    have hB1 := Lib.hid (hBa.trans (hb1.mono (by omega)))
    have bZ1 := bZ0.st hb1
    rw [hs0] at hx1
    obtain ⟨W, hW⟩ : ∃ W, splitL 32 l = W := ⟨_, rfl⟩
    rw [hW] at hx1 ⊢
    clear hb1 bZ0 hBa hs0
    have hWl : ¬ W.length = 2 := by rw [← hW]; exact h2
    have bZ := bZ1
    clear hx1
    have t0 := bZ.cell 0
    have t1 := bZ.cell 1
    have t2 := bZ.cell 2
    have f0 := bZ.frozen 0
    have f1 := bZ.frozen 1
    have f2 := bZ.frozen 2
    simp at t0 t1 t2
    clear bZ
    go_wp2_with fail
    refine bodyPost_ret (v := .tuple #[.agg #[.int .i64 0, .int .i64 0, .slice none 0 0], .bool false]) (by simp [results, Tryz.results28, go_sem, t0, t1, t2]) rfl ?_
    refine ⟨none, 0, by rw [hno.out.1, hno.out.2.1, hno.out.2.2.1, hno.out.2.2.2]; rfl, by rw [hno.out.2.2.2]; exact Rd.nil, hlen.out, ?_⟩
    exact ((hB1.out.setCell (by dsimp only; omega) _).setCell (by dsimp only; omega) _).setCell (by dsimp only; omega) _
theorem data_len (s : ByteArray) : s.data.toList.length = s.size := by rw [Array.length_toList]; rfl
end Go.Proofs.YtjhbffndiaggmaaGreatDoor
