/-
  Contract of ParseKeyBook in the program. The conditions are a bound on the text's length, and the library's variables.
-/
import Derived.Test.YtaoobcjannbnjaaDoorSplitM
import Derived.Test.YtaoobcjannbnjaaDoorKbText
namespace Go.Proofs.YtaoobcjannbnjaaDoor
open Go.RowKit Go.ChangeShapes Go.WideShapes
set_option linter.unusedVariables false
set_option linter.unusedSimpArgs false

theorem cut_call (b : UInt8) (l : List UInt8) (w : World) (hl : l.length ≤ 1048577) (hS : Sen w) :
    Calls Tryd.prog 64 #[.string (str l), .string { data := #[b] }] w fun e w' => ∃ v, e = .returned (.tuple #[.string (str (cutA b l)), .string (str (cutB b l)), .bool v]) ∧ Below w.heap.size w w' := by
  obtain ⟨m, hm⟩ := hS.len
  refine (Tryd.strings_Cut (str l) (str [b]) m w (by rw [str_size]; omega) hm).mono ?_
  rintro e w' ⟨h1, n, rfl⟩
  simp only [str_toList] at h1
  exact ⟨_, h1, below_refl_drewN n⟩
theorem Rd.tail {w : World} {lo hi b off : Nat} {z : Int} {zs : List Int} (h : Rd w lo hi (some ⟨b, off, none⟩) (z :: zs)) : Rd w lo hi (some ⟨b, off + 1, none⟩) zs := fun hp => by
  obtain ⟨b', off', e, h1, h2, hc⟩ := h (by simp)
  simp only [Option.some.injEq, Addr.mk.injEq, and_true] at e
  obtain ⟨rfl, rfl⟩ := e
  exact ⟨b, off + 1, rfl, h1, h2, fun j hj => by
    have := hc (j + 1) (by simpa using hj)
    rw [show off + 1 + j = off + (j + 1) by omega]
    simpa using this⟩
theorem Clone_n (zs : List Int) (A : Option Addr) (n c : Nat) {l h : Nat} (w : World) (hr0 : Rd w l h A zs) (hn : n = zs.length) (hl : zs.length ≤ 1000000000000) :
    Calls Tryd.prog 67 #[.slice A n c] w fun e w' => ∃ v, e = .returned v ∧ Own w' w.heap.size w'.heap.size v zs ∧ Below w.heap.size w w' := by
  subst hn; exact Clone_any zs A c w hr0 hl
theorem iIsKeyBook_n (key pages : Int) (zs : List Int) (A : Option Addr) (n c : Nat) {l h : Nat} (w : World) (hr : Rd w l h A zs) (hn : n = zs.length) (hl : zs.length ≤ 9223372036854775806) (v : Bool) (hv : kbB key pages zs = v) :
    Calls Tryd.prog 48 #[.agg #[.int .i64 key, .int .i64 pages, .slice A n c]] w fun e w' => e = .returned (.bool v) ∧ Below w.heap.size w w' := by
  subst hn; exact iIsKeyBook_w key pages zs A c w hr hl v hv
def pbB (s : ByteArray) : Bool := pkB s.data.toList
def pbK (s : ByteArray) : Int := pkK s.data.toList
def pbP (s : ByteArray) : Int := pkP s.data.toList
def pbL (s : ByteArray) : List Int := pkL s.data.toList
theorem pk_len (s : List UInt8) : (pkL s).length ≤ 1048576 := by
  cases h : pkS s with
  | none => rw [(pk_none h).2.2.2]; simp
  | some x =>
    obtain ⟨k, p, u⟩ := x
    rw [(pk_some h).2.2.2]
    have := kb_most (pkS_text h).1
    omega
set_option maxRecDepth 100000 in
set_option maxHeartbeats 4000000 in
theorem iParseKeyBook_l (l : List UInt8) (w : World) (hl : l.length ≤ 1048576) (hS : Sen w) :
    Calls Tryd.prog 30 #[.string (str l)] w fun e w' => ∃ A c, e = .returned (.tuple #[.agg #[.int .i64 (pkK l), .int .i64 (pkP l), .slice A (pkL l).length c], .bool (pkB l)]) ∧
      Own w' w.heap.size w'.heap.size (.slice A (pkL l).length c) (pkL l) ∧ (pkL l).length ≤ 1048576 ∧ Below w.heap.size w w' := by
  obtain ⟨ZB, hZB⟩ : ∃ ZB, ZB = Obj.cells #[.int .i64 0, .int .i64 0, .slice none 0 0] 32 (0, 0) := ⟨_, rfl⟩
  have bZ0 : Bk (w.alloc ZB) w.heap.size 32 #[.int .i64 0, .int .i64 0, .slice none 0 0] := by rw [hZB]; exact Bk.new w _ _
  have hs0 : (w.alloc ZB).heap.size = w.heap.size + 1 := by simp
  have hBa := (Below.refl w.heap.size w).alloc (Nat.le_refl _) ZB
  have hSa := hS.alloc ZB
  have hla := (cut_len 32 l).1
  have hlb := (cut_len 32 l).2
  have hlen := Lib.hid (pk_len l)
  cases h1 : rnO (cutA 32 l) with
  | none =>
    cases h2 : rnL (splitL 45 (cutB 32 l)) with
    | none =>
      have hno := Lib.hid (pk_none (s := l) (by unfold pkS; rw [h1]))
      go_enter Tryd.func30, Tryd.ntmps30
      go_wp2_with fail
      rw [← hZB]
      (with_reducible refine (cut_call 32 l _ (by omega) hSa).mono ?_)
      rintro e w1 ⟨cv, rfl, hb1⟩
      have s1 : w.heap.size + 1 ≤ w1.heap.size := by have := hb1.size; omega
      have hB1 := hBa.trans (hb1.mono (by omega))
      have bZ1 := bZ0.st hb1
      have hS1 := hSa.st hb1
      clear hb1 bZ0 hBa hSa hs0
      go_wp2_with fail
      (with_reducible refine (readNumber_none (cutA 32 l) _ (by omega) hS1 h1).mono ?_)
      rintro e w2 ⟨rfl, hb2⟩
      have s2 := hb2.size
      have hB2 := hB1.trans (hb2.mono (by omega))
      have bZ2 := bZ1.st hb2
      have hS2 := hS1.st hb2
      clear hb2 hB1 bZ1 hS1
      go_wp2_with fail
      (with_reducible refine (splitNumbers_none (cutB 32 l) 45 _ (by omega) hS2 h2).mono ?_)
      rintro e w3 ⟨rfl, hb3⟩
      have s3 := hb3.size
      have hB3 := Lib.hid (hB2.trans (hb3.mono (by omega)))
      have bZ := bZ2.st hb3
      clear hB2 bZ2 hS2
      clear hb3
      have t0 := bZ.cell 0
      have t1 := bZ.cell 1
      have t2 := bZ.cell 2
      have f0 := bZ.frozen 0
      have f1 := bZ.frozen 1
      have f2 := bZ.frozen 2
      simp at t0 t1 t2
      clear bZ
      go_wp2_with fail
      refine bodyPost_ret (v := .tuple #[.agg #[.int .i64 0, .int .i64 0, .slice none 0 0], .bool false]) (by simp [results, Tryd.results30, go_sem, t0, t1, t2]) rfl ?_
      refine ⟨none, 0, by rw [hno.out.1, hno.out.2.1, hno.out.2.2.1, hno.out.2.2.2]; rfl, by rw [hno.out.2.2.2]; exact Own.nil, hlen.out, ?_⟩
      exact ((hB3.out.setCell (by dsimp only; omega) _).setCell (by dsimp only; omega) _).setCell (by dsimp only; omega) _
    | some ns =>
      have hno := Lib.hid (pk_none (s := l) (by unfold pkS; rw [h1]))
      go_enter Tryd.func30, Tryd.ntmps30
      go_wp2_with fail
      rw [← hZB]
      (with_reducible refine (cut_call 32 l _ (by omega) hSa).mono ?_)
      rintro e w1 ⟨cv, rfl, hb1⟩
      have s1 : w.heap.size + 1 ≤ w1.heap.size := by have := hb1.size; omega
      have hB1 := hBa.trans (hb1.mono (by omega))
      have bZ1 := bZ0.st hb1
      have hS1 := hSa.st hb1
      clear hb1 bZ0 hBa hSa hs0
      go_wp2_with fail
      (with_reducible refine (readNumber_none (cutA 32 l) _ (by omega) hS1 h1).mono ?_)
      rintro e w2 ⟨rfl, hb2⟩
      have s2 := hb2.size
      have hB2 := hB1.trans (hb2.mono (by omega))
      have bZ2 := bZ1.st hb2
      have hS2 := hS1.st hb2
      clear hb2 hB1 bZ1 hS1
      go_wp2_with fail
      (with_reducible refine (splitNumbers_yes (cutB 32 l) 45 _ (by omega) hS2 ns h2).mono ?_)
      rintro e w3 ⟨A3, c3, rfl, ho3, hb3⟩
      have s3 := hb3.size
      have hB3 := Lib.hid (hB2.trans (hb3.mono (by omega)))
      have bZ := bZ2.st hb3
      clear hB2 bZ2 hS2
      clear hb3 ho3
      have t0 := bZ.cell 0
      have t1 := bZ.cell 1
      have t2 := bZ.cell 2
      have f0 := bZ.frozen 0
      have f1 := bZ.frozen 1
      have f2 := bZ.frozen 2
      simp at t0 t1 t2
      clear bZ
      go_wp2_with fail
      refine bodyPost_ret (v := .tuple #[.agg #[.int .i64 0, .int .i64 0, .slice none 0 0], .bool false]) (by simp [results, Tryd.results30, go_sem, t0, t1, t2]) rfl ?_
      refine ⟨none, 0, by rw [hno.out.1, hno.out.2.1, hno.out.2.2.1, hno.out.2.2.2]; rfl, by rw [hno.out.2.2.2]; exact Own.nil, hlen.out, ?_⟩
      exact ((hB3.out.setCell (by dsimp only; omega) _).setCell (by dsimp only; omega) _).setCell (by dsimp only; omega) _
  | some k =>
    cases h2 : rnL (splitL 45 (cutB 32 l)) with
    | none =>
      have hno := Lib.hid (pk_none (s := l) (by unfold pkS; rw [h1, h2]))
      go_enter Tryd.func30, Tryd.ntmps30
      go_wp2_with fail
      rw [← hZB]
      (with_reducible refine (cut_call 32 l _ (by omega) hSa).mono ?_)
      rintro e w1 ⟨cv, rfl, hb1⟩
      have s1 : w.heap.size + 1 ≤ w1.heap.size := by have := hb1.size; omega
      have hB1 := hBa.trans (hb1.mono (by omega))
      have bZ1 := bZ0.st hb1
      have hS1 := hSa.st hb1
      clear hb1 bZ0 hBa hSa hs0
      go_wp2_with fail
      (with_reducible refine (readNumber_some (cutA 32 l) _ (by omega) hS1 k h1).mono ?_)
      rintro e w2 ⟨rfl, hb2⟩
      have s2 := hb2.size
      have hB2 := hB1.trans (hb2.mono (by omega))
      have bZ2 := bZ1.st hb2
      have hS2 := hS1.st hb2
      clear hb2 hB1 bZ1 hS1
      go_wp2_with fail
      (with_reducible refine (splitNumbers_none (cutB 32 l) 45 _ (by omega) hS2 h2).mono ?_)
      rintro e w3 ⟨rfl, hb3⟩
      have s3 := hb3.size
      have hB3 := Lib.hid (hB2.trans (hb3.mono (by omega)))
      have bZ := bZ2.st hb3
      clear hB2 bZ2 hS2
      clear hb3
      have t0 := bZ.cell 0
      have t1 := bZ.cell 1
      have t2 := bZ.cell 2
      have f0 := bZ.frozen 0
      have f1 := bZ.frozen 1
      have f2 := bZ.frozen 2
      simp at t0 t1 t2
      clear bZ
      go_wp2_with fail
      refine bodyPost_ret (v := .tuple #[.agg #[.int .i64 0, .int .i64 0, .slice none 0 0], .bool false]) (by simp [results, Tryd.results30, go_sem, t0, t1, t2]) rfl ?_
      refine ⟨none, 0, by rw [hno.out.1, hno.out.2.1, hno.out.2.2.1, hno.out.2.2.2]; rfl, by rw [hno.out.2.2.2]; exact Own.nil, hlen.out, ?_⟩
      exact ((hB3.out.setCell (by dsimp only; omega) _).setCell (by dsimp only; omega) _).setCell (by dsimp only; omega) _
    | some ns =>
      cases ns with
      | nil => exact absurd rfl (rnL_text h2).2.1
      | cons p u =>
        go_enter Tryd.func30, Tryd.ntmps30
        go_wp2_with fail
        rw [← hZB]
        (with_reducible refine (cut_call 32 l _ (by omega) hSa).mono ?_)
        rintro e w1 ⟨cv, rfl, hb1⟩
        have s1 : w.heap.size + 1 ≤ w1.heap.size := by have := hb1.size; omega
        have hB1 := hBa.trans (hb1.mono (by omega))
        have bZ1 := bZ0.st hb1
        have hS1 := hSa.st hb1
        clear hb1 bZ0 hBa hSa hs0
        go_wp2_with fail
        (with_reducible refine (readNumber_some (cutA 32 l) _ (by omega) hS1 k h1).mono ?_)
        rintro e w2 ⟨rfl, hb2⟩
        have s2 := hb2.size
        have hB2 := hB1.trans (hb2.mono (by omega))
        have bZ2 := bZ1.st hb2
        have hS2 := hS1.st hb2
        clear hb2 hB1 bZ1 hS1
        go_wp2_with fail
        (with_reducible refine (splitNumbers_yes (cutB 32 l) 45 _ (by omega) hS2 (p :: u) h2).mono ?_)
        rintro e w3 ⟨A3, c3, rfl, ho3, hb3⟩
        have s3 := hb3.size
        have hB3 := Lib.hid (hB2.trans (hb3.mono (by omega)))
        have bZ := bZ2.st hb3
        clear hB2 bZ2 hS2
        obtain ⟨g, c3', he, hg1, hg2, hg3, hcl, -⟩ := ho3.at_ (by simp)
        have hcp : u.length + 1 ≤ c3 := by have := ho3.len.2; simpa using this
        have hcp2 : (u.length : Int) + 1 ≤ (c3 : Int) := by omega
        have hcp3 : (1 : Int) ≤ (u.length : Int) + 1 := by omega
        obtain ⟨rfl, hcc⟩ : A3 = some ⟨g, 0, none⟩ ∧ c3 = c3' := by injection he with e1 e2 e3; exact ⟨e1, e3⟩
        clear he hcc c3'
        have x0 := hcl 0 (by simp)
        simp at x0
        have hrt0 := (ho3.rd'.tail).std
        clear hcl ho3 hb3
        have hB0 : Below w3.heap.size w3 w3 := Below.refl _ _
        have hp0 : (0 : Int) ≤ (u.length : Int) := by omega
        have hul : u.length ≤ 1048576 := by
          have h5 := congrArg List.length (rnL_some h2)
          simp [splitL_length] at h5
          have := List.count_le_length (a := (45 : UInt8)) (l := cutB 32 l)
          omega
        by_cases hc1 : c3 = 1
        · subst hc1
          obtain rfl : u = [] := List.eq_nil_of_length_eq_zero (by omega)
          have hrt : Rd w3 0 w3.heap.size (some ⟨g, 0, none⟩) [] := Rd.nil
          clear hrt0
          go_wp2_with fail
          go_region_held3 (fun w' => w'.cell? ⟨g, 0, none⟩ = some (.int .i64 p))
            (((try go_split_ands); (try dsimp only); (repeat' apply And.intro) <;> (first | assumption | ((refine (Below.cell (B := w3.heap.size) (w := w3) ?_ (by dsimp only; omega)).trans ?_) <;> first | assumption | (repeat first | exact Below.refl _ _ | exact hBx.out | refine Below.drew ?_ | refine Below.alloc ?_ (by first | omega | (simp <;> omega)) _ | refine Below.setCell ?_ (by first | (dsimp only; omega) | (simp <;> omega)) _)))))
            (first
              | (go_at_call 67; ((with_reducible refine (Clone_n [] (some ⟨g, 0, none⟩) 0 (0) _ (by first | exact hrt.drew | exact (hrt.alloc _).drew) rfl (by first | omega | simp)).mono ?_); rintro e w4 ⟨v4, rfl, ho4, hb4⟩); (obtain ⟨A4, c4, rfl, -, -⟩ := ho4.rd);
                  (have hBx : Hid (Below w3.heap.size w3 w4) := Lib.hid (by first | exact hB0.drew.trans hb4 | exact ((hB0.alloc (Nat.le_refl _) _).drew).trans (hb4.mono (by simp)))); (have s4 := hBx.out.size);
                  (first | ((have bq := ((Bk.new w3 32 #[.int .i64 0, .int .i64 0, .slice none 0 0]).drew).st hb4); (have q0 := bq.cell 0); (have q1 := bq.cell 1); (have q2 := bq.cell 2); (have g0 := bq.frozen 0); (have g1 := bq.frozen 1); (have g2 := bq.frozen 2); (have ql := bq.lt); (simp at q0 q1 q2)) | skip))
              | fail)
          · skip
            obtain ⟨W5, hW5⟩ : ∃ W5, W5 = w4.alloc (.cells #[.int .i64 k, .int .i64 p, .slice A4 0 c4] 32) := ⟨_, rfl⟩
            have bk : Bk W5 w4.heap.size 32 #[.int .i64 k, .int .i64 p, .slice A4 0 c4] := by rw [hW5]; exact Bk.new w4 _ _
            have ho5 : Own W5 w3.heap.size w4.heap.size (.slice A4 0 c4) [] := by rw [hW5]; exact (ho4.alloc _).mono (by simp) (Nat.le_refl _)
            have hB5 : Below w3.heap.size w3 W5 := by rw [hW5]; exact hBx.out.alloc s4 _
            have hne : w.heap.size < w4.heap.size := by omega
            rw [← hW5]
            have s5 := hB5.size
            have h45 : w4.heap.size ≤ W5.heap.size := by rw [hW5]; simp [size_setCell]
            have bZ5 := bZ.st hB5
            have hB6 := Lib.hid (hB3.out.trans (hB5.mono (by omega)))
            have y0 := bk.cell 0
            have y1 := bk.cell 1
            have y2 := bk.cell 2
            simp at y0 y1 y2
            have ho5H := Lib.hid ho5
            have hrd5 := ho5.rd'
            clear hW5 bZ x0 hrt hB5 ho4 hb4 hBx hB0 ho5
            go_wp2_with fail
            cases hk : kbB k p [] with
            | false =>
              (with_reducible refine (iIsKeyBook_n k p [] A4 0 c4 _ hrd5 rfl (by first | omega | simp) _ hk).mono ?_)
              rintro e w6 ⟨rfl, hb6⟩
              have s6 := hb6.size
              have hB7 := Lib.hid (hB6.out.trans (hb6.mono (by omega)))
              have bZ := bZ5.st hb6
              have hno := Lib.hid (pk_none (s := l) (by unfold pkS; rw [h1, h2]; simp [hk]))
              clear hb6 bZ5 bk hrd5 y0 y1 y2
              have t0 := bZ.cell 0
              have t1 := bZ.cell 1
              have t2 := bZ.cell 2
              have f0 := bZ.frozen 0
              have f1 := bZ.frozen 1
              have f2 := bZ.frozen 2
              simp at t0 t1 t2
              clear bZ
              go_wp2_with fail
              refine bodyPost_ret (v := .tuple #[.agg #[.int .i64 0, .int .i64 0, .slice none 0 0], .bool false]) (by simp [results, Tryd.results30, go_sem, t0, t1, t2]) rfl ?_
              refine ⟨none, 0, by rw [hno.out.1, hno.out.2.1, hno.out.2.2.1, hno.out.2.2.2]; rfl, by rw [hno.out.2.2.2]; exact Own.nil, hlen.out, ?_⟩
              exact ((hB7.out.setCell (by dsimp only; omega) _).setCell (by dsimp only; omega) _).setCell (by dsimp only; omega) _
            | true =>
              (with_reducible refine (iIsKeyBook_n k p [] A4 0 c4 _ hrd5 rfl (by first | omega | simp) _ hk).mono ?_)
              rintro e w6 ⟨rfl, hb6⟩
              have s6 := hb6.size
              have hB7 := Lib.hid (hB6.out.trans (hb6.mono (by omega)))
              have bZ := bZ5.st hb6
              have bk6 := bk.st hb6
              have hyes := Lib.hid (pk_some (s := l) (k := k) (p := p) (u := []) (by unfold pkS; rw [h1, h2]; simp [hk]))
              have ho6 := ho5H.out.st hb6
              have v0 := bk6.cell 0
              have v1 := bk6.cell 1
              have v2 := bk6.cell 2
              have t0 := bZ.cell 0
              have t1 := bZ.cell 1
              have t2 := bZ.cell 2
              have f0 := bZ.frozen 0
              have f1 := bZ.frozen 1
              have f2 := bZ.frozen 2
              have ql := bZ.lt
              simp at v0 v1 v2 t0 t1 t2
              have ho7 := Lib.hid ((((ho6.setCell (p := ⟨w.heap.size, 0, none⟩) (.inl (by dsimp only; omega)) (.int .i64 k)).setCell (p := ⟨w.heap.size, 1, none⟩) (.inl (by dsimp only; omega)) (.int .i64 p)).setCell (p := ⟨w.heap.size, 2, none⟩) (.inl (by dsimp only; omega)) (.slice A4 0 c4)).mono (show w.heap.size ≤ w3.heap.size by omega) (show w4.heap.size ≤ (((w6.setCell ⟨w.heap.size, 0, none⟩ (.int .i64 k)).setCell ⟨w.heap.size, 1, none⟩ (.int .i64 p)).setCell ⟨w.heap.size, 2, none⟩ (.slice A4 0 c4)).heap.size by simp only [size_setCell]; omega))
              clear hb6 bZ5 bk bk6 bZ hrd5 y0 y1 y2 ho6
              go_wp2_with fail
              refine bodyPost_ret (v := .tuple #[.agg #[.int .i64 k, .int .i64 p, .slice A4 0 c4], .bool true]) (by simp [results, Tryd.results30, go_sem, t0, t1, t2]) rfl ?_
              refine ⟨A4, c4, by rw [hyes.out.1, hyes.out.2.1, hyes.out.2.2.1, hyes.out.2.2.2]; try rfl, by rw [hyes.out.2.2.2]; exact ho7.out, hlen.out, ?_⟩
              exact ((hB7.out.setCell (by dsimp only; omega) _).setCell (by dsimp only; omega) _).setCell (by dsimp only; omega) _
          · skip
            obtain ⟨W5, hW5⟩ : ∃ W5, W5 = ((w4.setCell ⟨w3.heap.size, 0, none⟩ (.int .i64 k)).setCell ⟨w3.heap.size, 1, none⟩ (.int .i64 p)).setCell ⟨w3.heap.size, 2, none⟩ (.slice A4 0 c4) := ⟨_, rfl⟩
            have bk : Bk W5 w3.heap.size 32 #[.int .i64 k, .int .i64 p, .slice A4 0 c4] := by rw [hW5]; simpa using ((bq.set_ 0 (.int .i64 k)).set_ 1 (.int .i64 p)).set_ 2 (.slice A4 0 c4)
            have ho5 : Own W5 w3.heap.size w4.heap.size (.slice A4 0 c4) [] := by
              rw [hW5]
              exact (((ho4.setCell (p := ⟨w3.heap.size, 0, none⟩) (.inl (by simp)) _).setCell (p := ⟨w3.heap.size, 1, none⟩) (.inl (by simp)) _).setCell (p := ⟨w3.heap.size, 2, none⟩) (.inl (by simp)) _).mono (by simp) (Nat.le_refl _)
            have hB5 : Below w3.heap.size w3 W5 := by
              rw [hW5]
              exact ((hBx.out.setCell (p := ⟨w3.heap.size, 0, none⟩) (Nat.le_refl _) _).setCell (p := ⟨w3.heap.size, 1, none⟩) (Nat.le_refl _) _).setCell (p := ⟨w3.heap.size, 2, none⟩) (Nat.le_refl _) _
            have hne : w.heap.size < w3.heap.size := by omega
            rw [← hW5]
            have s5 := hB5.size
            have h45 : w4.heap.size ≤ W5.heap.size := by rw [hW5]; simp [size_setCell]
            have bZ5 := bZ.st hB5
            have hB6 := Lib.hid (hB3.out.trans (hB5.mono (by omega)))
            have y0 := bk.cell 0
            have y1 := bk.cell 1
            have y2 := bk.cell 2
            simp at y0 y1 y2
            have ho5H := Lib.hid ho5
            have hrd5 := ho5.rd'
            clear hW5 bZ x0 hrt hB5 ho4 hb4 hBx hB0 ho5 bq q0 q1 q2 g0 g1 g2 ql
            go_wp2_with fail
            cases hk : kbB k p [] with
            | false =>
              (with_reducible refine (iIsKeyBook_n k p [] A4 0 c4 _ hrd5 rfl (by first | omega | simp) _ hk).mono ?_)
              rintro e w6 ⟨rfl, hb6⟩
              have s6 := hb6.size
              have hB7 := Lib.hid (hB6.out.trans (hb6.mono (by omega)))
              have bZ := bZ5.st hb6
              have hno := Lib.hid (pk_none (s := l) (by unfold pkS; rw [h1, h2]; simp [hk]))
              clear hb6 bZ5 bk hrd5 y0 y1 y2
              have t0 := bZ.cell 0
              have t1 := bZ.cell 1
              have t2 := bZ.cell 2
              have f0 := bZ.frozen 0
              have f1 := bZ.frozen 1
              have f2 := bZ.frozen 2
              simp at t0 t1 t2
              clear bZ
              go_wp2_with fail
              refine bodyPost_ret (v := .tuple #[.agg #[.int .i64 0, .int .i64 0, .slice none 0 0], .bool false]) (by simp [results, Tryd.results30, go_sem, t0, t1, t2]) rfl ?_
              refine ⟨none, 0, by rw [hno.out.1, hno.out.2.1, hno.out.2.2.1, hno.out.2.2.2]; rfl, by rw [hno.out.2.2.2]; exact Own.nil, hlen.out, ?_⟩
              exact ((hB7.out.setCell (by dsimp only; omega) _).setCell (by dsimp only; omega) _).setCell (by dsimp only; omega) _
            | true =>
              (with_reducible refine (iIsKeyBook_n k p [] A4 0 c4 _ hrd5 rfl (by first | omega | simp) _ hk).mono ?_)
              rintro e w6 ⟨rfl, hb6⟩
              have s6 := hb6.size
              have hB7 := Lib.hid (hB6.out.trans (hb6.mono (by omega)))
              have bZ := bZ5.st hb6
              have bk6 := bk.st hb6
              have hyes := Lib.hid (pk_some (s := l) (k := k) (p := p) (u := []) (by unfold pkS; rw [h1, h2]; simp [hk]))
              have ho6 := ho5H.out.st hb6
              have v0 := bk6.cell 0
              have v1 := bk6.cell 1
              have v2 := bk6.cell 2
              have t0 := bZ.cell 0
              have t1 := bZ.cell 1
              have t2 := bZ.cell 2
              have f0 := bZ.frozen 0
              have f1 := bZ.frozen 1
              have f2 := bZ.frozen 2
              have ql := bZ.lt
              simp at v0 v1 v2 t0 t1 t2
              have ho7 := Lib.hid ((((ho6.setCell (p := ⟨w.heap.size, 0, none⟩) (.inl (by dsimp only; omega)) (.int .i64 k)).setCell (p := ⟨w.heap.size, 1, none⟩) (.inl (by dsimp only; omega)) (.int .i64 p)).setCell (p := ⟨w.heap.size, 2, none⟩) (.inl (by dsimp only; omega)) (.slice A4 0 c4)).mono (show w.heap.size ≤ w3.heap.size by omega) (show w4.heap.size ≤ (((w6.setCell ⟨w.heap.size, 0, none⟩ (.int .i64 k)).setCell ⟨w.heap.size, 1, none⟩ (.int .i64 p)).setCell ⟨w.heap.size, 2, none⟩ (.slice A4 0 c4)).heap.size by simp only [size_setCell]; omega))
              clear hb6 bZ5 bk bk6 bZ hrd5 y0 y1 y2 ho6
              go_wp2_with fail
              refine bodyPost_ret (v := .tuple #[.agg #[.int .i64 k, .int .i64 p, .slice A4 0 c4], .bool true]) (by simp [results, Tryd.results30, go_sem, t0, t1, t2]) rfl ?_
              refine ⟨A4, c4, by rw [hyes.out.1, hyes.out.2.1, hyes.out.2.2.1, hyes.out.2.2.2]; try rfl, by rw [hyes.out.2.2.2]; exact ho7.out, hlen.out, ?_⟩
              exact ((hB7.out.setCell (by dsimp only; omega) _).setCell (by dsimp only; omega) _).setCell (by dsimp only; omega) _
        · have hrt := hrt0
          clear hrt0
          go_wp2_with fail
          go_region_held3 (fun w' => w'.cell? ⟨g, 0, none⟩ = some (.int .i64 p))
            (((try go_split_ands); (try dsimp only); (repeat' apply And.intro) <;> (first | assumption | ((refine (Below.cell (B := w3.heap.size) (w := w3) ?_ (by dsimp only; omega)).trans ?_) <;> first | assumption | (repeat first | exact Below.refl _ _ | exact hBx.out | refine Below.drew ?_ | refine Below.alloc ?_ (by first | omega | (simp <;> omega)) _ | refine Below.setCell ?_ (by first | (dsimp only; omega) | (simp <;> omega)) _)))))
            (first
              | (go_at_call 67; ((with_reducible refine (Clone_n u (some ⟨g, 1, none⟩) u.length (c3 - 1) _ (by first | exact hrt.drew | exact (hrt.alloc _).drew) rfl (by first | omega | simp)).mono ?_); rintro e w4 ⟨v4, rfl, ho4, hb4⟩); (obtain ⟨A4, c4, rfl, -, -⟩ := ho4.rd);
                  (have hBx : Hid (Below w3.heap.size w3 w4) := Lib.hid (by first | exact hB0.drew.trans hb4 | exact ((hB0.alloc (Nat.le_refl _) _).drew).trans (hb4.mono (by simp)))); (have s4 := hBx.out.size);
                  (first | ((have bq := ((Bk.new w3 32 #[.int .i64 0, .int .i64 0, .slice none 0 0]).drew).st hb4); (have q0 := bq.cell 0); (have q1 := bq.cell 1); (have q2 := bq.cell 2); (have g0 := bq.frozen 0); (have g1 := bq.frozen 1); (have g2 := bq.frozen 2); (have ql := bq.lt); (simp at q0 q1 q2)) | skip))
              | fail)
          · skip
            obtain ⟨W5, hW5⟩ : ∃ W5, W5 = w4.alloc (.cells #[.int .i64 k, .int .i64 p, .slice A4 u.length c4] 32) := ⟨_, rfl⟩
            have bk : Bk W5 w4.heap.size 32 #[.int .i64 k, .int .i64 p, .slice A4 u.length c4] := by rw [hW5]; exact Bk.new w4 _ _
            have ho5 : Own W5 w3.heap.size w4.heap.size (.slice A4 u.length c4) u := by rw [hW5]; exact (ho4.alloc _).mono (by simp) (Nat.le_refl _)
            have hB5 : Below w3.heap.size w3 W5 := by rw [hW5]; exact hBx.out.alloc s4 _
            have hne : w.heap.size < w4.heap.size := by omega
            rw [← hW5]
            have s5 := hB5.size
            have h45 : w4.heap.size ≤ W5.heap.size := by rw [hW5]; simp [size_setCell]
            have bZ5 := bZ.st hB5
            have hB6 := Lib.hid (hB3.out.trans (hB5.mono (by omega)))
            have y0 := bk.cell 0
            have y1 := bk.cell 1
            have y2 := bk.cell 2
            simp at y0 y1 y2
            have ho5H := Lib.hid ho5
            have hrd5 := ho5.rd'
            clear hW5 bZ x0 hrt hB5 ho4 hb4 hBx hB0 ho5
            go_wp2_with fail
            cases hk : kbB k p u with
            | false =>
              (with_reducible refine (iIsKeyBook_n k p u A4 u.length c4 _ hrd5 rfl (by first | omega | simp) _ hk).mono ?_)
              rintro e w6 ⟨rfl, hb6⟩
              have s6 := hb6.size
              have hB7 := Lib.hid (hB6.out.trans (hb6.mono (by omega)))
              have bZ := bZ5.st hb6
              have hno := Lib.hid (pk_none (s := l) (by unfold pkS; rw [h1, h2]; simp [hk]))
              clear hb6 bZ5 bk hrd5 y0 y1 y2
              have t0 := bZ.cell 0
              have t1 := bZ.cell 1
              have t2 := bZ.cell 2
              have f0 := bZ.frozen 0
              have f1 := bZ.frozen 1
              have f2 := bZ.frozen 2
              simp at t0 t1 t2
              clear bZ
              go_wp2_with fail
              refine bodyPost_ret (v := .tuple #[.agg #[.int .i64 0, .int .i64 0, .slice none 0 0], .bool false]) (by simp [results, Tryd.results30, go_sem, t0, t1, t2]) rfl ?_
              refine ⟨none, 0, by rw [hno.out.1, hno.out.2.1, hno.out.2.2.1, hno.out.2.2.2]; rfl, by rw [hno.out.2.2.2]; exact Own.nil, hlen.out, ?_⟩
              exact ((hB7.out.setCell (by dsimp only; omega) _).setCell (by dsimp only; omega) _).setCell (by dsimp only; omega) _
            | true =>
              (with_reducible refine (iIsKeyBook_n k p u A4 u.length c4 _ hrd5 rfl (by first | omega | simp) _ hk).mono ?_)
              rintro e w6 ⟨rfl, hb6⟩
              have s6 := hb6.size
              have hB7 := Lib.hid (hB6.out.trans (hb6.mono (by omega)))
              have bZ := bZ5.st hb6
              have bk6 := bk.st hb6
              have hyes := Lib.hid (pk_some (s := l) (k := k) (p := p) (u := u) (by unfold pkS; rw [h1, h2]; simp [hk]))
              have ho6 := ho5H.out.st hb6
              have v0 := bk6.cell 0
              have v1 := bk6.cell 1
              have v2 := bk6.cell 2
              have t0 := bZ.cell 0
              have t1 := bZ.cell 1
              have t2 := bZ.cell 2
              have f0 := bZ.frozen 0
              have f1 := bZ.frozen 1
              have f2 := bZ.frozen 2
              have ql := bZ.lt
              simp at v0 v1 v2 t0 t1 t2
              have ho7 := Lib.hid ((((ho6.setCell (p := ⟨w.heap.size, 0, none⟩) (.inl (by dsimp only; omega)) (.int .i64 k)).setCell (p := ⟨w.heap.size, 1, none⟩) (.inl (by dsimp only; omega)) (.int .i64 p)).setCell (p := ⟨w.heap.size, 2, none⟩) (.inl (by dsimp only; omega)) (.slice A4 u.length c4)).mono (show w.heap.size ≤ w3.heap.size by omega) (show w4.heap.size ≤ (((w6.setCell ⟨w.heap.size, 0, none⟩ (.int .i64 k)).setCell ⟨w.heap.size, 1, none⟩ (.int .i64 p)).setCell ⟨w.heap.size, 2, none⟩ (.slice A4 u.length c4)).heap.size by simp only [size_setCell]; omega))
              clear hb6 bZ5 bk bk6 bZ hrd5 y0 y1 y2 ho6
              go_wp2_with fail
              refine bodyPost_ret (v := .tuple #[.agg #[.int .i64 k, .int .i64 p, .slice A4 u.length c4], .bool true]) (by simp [results, Tryd.results30, go_sem, t0, t1, t2]) rfl ?_
              refine ⟨A4, c4, by rw [hyes.out.1, hyes.out.2.1, hyes.out.2.2.1, hyes.out.2.2.2]; try rfl, by rw [hyes.out.2.2.2]; exact ho7.out, hlen.out, ?_⟩
              exact ((hB7.out.setCell (by dsimp only; omega) _).setCell (by dsimp only; omega) _).setCell (by dsimp only; omega) _
          · skip
            obtain ⟨W5, hW5⟩ : ∃ W5, W5 = ((w4.setCell ⟨w3.heap.size, 0, none⟩ (.int .i64 k)).setCell ⟨w3.heap.size, 1, none⟩ (.int .i64 p)).setCell ⟨w3.heap.size, 2, none⟩ (.slice A4 u.length c4) := ⟨_, rfl⟩
            have bk : Bk W5 w3.heap.size 32 #[.int .i64 k, .int .i64 p, .slice A4 u.length c4] := by rw [hW5]; simpa using ((bq.set_ 0 (.int .i64 k)).set_ 1 (.int .i64 p)).set_ 2 (.slice A4 u.length c4)
            have ho5 : Own W5 w3.heap.size w4.heap.size (.slice A4 u.length c4) u := by
              rw [hW5]
              exact (((ho4.setCell (p := ⟨w3.heap.size, 0, none⟩) (.inl (by simp)) _).setCell (p := ⟨w3.heap.size, 1, none⟩) (.inl (by simp)) _).setCell (p := ⟨w3.heap.size, 2, none⟩) (.inl (by simp)) _).mono (by simp) (Nat.le_refl _)
            have hB5 : Below w3.heap.size w3 W5 := by
              rw [hW5]
              exact ((hBx.out.setCell (p := ⟨w3.heap.size, 0, none⟩) (Nat.le_refl _) _).setCell (p := ⟨w3.heap.size, 1, none⟩) (Nat.le_refl _) _).setCell (p := ⟨w3.heap.size, 2, none⟩) (Nat.le_refl _) _
            have hne : w.heap.size < w3.heap.size := by omega
            rw [← hW5]
            have s5 := hB5.size
            have h45 : w4.heap.size ≤ W5.heap.size := by rw [hW5]; simp [size_setCell]
            have bZ5 := bZ.st hB5
            have hB6 := Lib.hid (hB3.out.trans (hB5.mono (by omega)))
            have y0 := bk.cell 0
            have y1 := bk.cell 1
            have y2 := bk.cell 2
            simp at y0 y1 y2
            have ho5H := Lib.hid ho5
            have hrd5 := ho5.rd'
            clear hW5 bZ x0 hrt hB5 ho4 hb4 hBx hB0 ho5 bq q0 q1 q2 g0 g1 g2 ql
            go_wp2_with fail
            cases hk : kbB k p u with
            | false =>
              (with_reducible refine (iIsKeyBook_n k p u A4 u.length c4 _ hrd5 rfl (by first | omega | simp) _ hk).mono ?_)
              rintro e w6 ⟨rfl, hb6⟩
              have s6 := hb6.size
              have hB7 := Lib.hid (hB6.out.trans (hb6.mono (by omega)))
              have bZ := bZ5.st hb6
              have hno := Lib.hid (pk_none (s := l) (by unfold pkS; rw [h1, h2]; simp [hk]))
              clear hb6 bZ5 bk hrd5 y0 y1 y2
              have t0 := bZ.cell 0
              have t1 := bZ.cell 1
              have t2 := bZ.cell 2
              have f0 := bZ.frozen 0
              have f1 := bZ.frozen 1
              have f2 := bZ.frozen 2
              simp at t0 t1 t2
              clear bZ
              go_wp2_with fail
              refine bodyPost_ret (v := .tuple #[.agg #[.int .i64 0, .int .i64 0, .slice none 0 0], .bool false]) (by simp [results, Tryd.results30, go_sem, t0, t1, t2]) rfl ?_
              refine ⟨none, 0, by rw [hno.out.1, hno.out.2.1, hno.out.2.2.1, hno.out.2.2.2]; rfl, by rw [hno.out.2.2.2]; exact Own.nil, hlen.out, ?_⟩
              exact ((hB7.out.setCell (by dsimp only; omega) _).setCell (by dsimp only; omega) _).setCell (by dsimp only; omega) _
            | true =>
              (with_reducible refine (iIsKeyBook_n k p u A4 u.length c4 _ hrd5 rfl (by first | omega | simp) _ hk).mono ?_)
              rintro e w6 ⟨rfl, hb6⟩
              have s6 := hb6.size
              have hB7 := Lib.hid (hB6.out.trans (hb6.mono (by omega)))
              have bZ := bZ5.st hb6
              have bk6 := bk.st hb6
              have hyes := Lib.hid (pk_some (s := l) (k := k) (p := p) (u := u) (by unfold pkS; rw [h1, h2]; simp [hk]))
              have ho6 := ho5H.out.st hb6
              have v0 := bk6.cell 0
              have v1 := bk6.cell 1
              have v2 := bk6.cell 2
              have t0 := bZ.cell 0
              have t1 := bZ.cell 1
              have t2 := bZ.cell 2
              have f0 := bZ.frozen 0
              have f1 := bZ.frozen 1
              have f2 := bZ.frozen 2
              have ql := bZ.lt
              simp at v0 v1 v2 t0 t1 t2
              have ho7 := Lib.hid ((((ho6.setCell (p := ⟨w.heap.size, 0, none⟩) (.inl (by dsimp only; omega)) (.int .i64 k)).setCell (p := ⟨w.heap.size, 1, none⟩) (.inl (by dsimp only; omega)) (.int .i64 p)).setCell (p := ⟨w.heap.size, 2, none⟩) (.inl (by dsimp only; omega)) (.slice A4 u.length c4)).mono (show w.heap.size ≤ w3.heap.size by omega) (show w4.heap.size ≤ (((w6.setCell ⟨w.heap.size, 0, none⟩ (.int .i64 k)).setCell ⟨w.heap.size, 1, none⟩ (.int .i64 p)).setCell ⟨w.heap.size, 2, none⟩ (.slice A4 u.length c4)).heap.size by simp only [size_setCell]; omega))
              clear hb6 bZ5 bk bk6 bZ hrd5 y0 y1 y2 ho6
              go_wp2_with fail
              refine bodyPost_ret (v := .tuple #[.agg #[.int .i64 k, .int .i64 p, .slice A4 u.length c4], .bool true]) (by simp [results, Tryd.results30, go_sem, t0, t1, t2]) rfl ?_
              refine ⟨A4, c4, by rw [hyes.out.1, hyes.out.2.1, hyes.out.2.2.1, hyes.out.2.2.2]; try rfl, by rw [hyes.out.2.2.2]; exact ho7.out, hlen.out, ?_⟩
              exact ((hB7.out.setCell (by dsimp only; omega) _).setCell (by dsimp only; omega) _).setCell (by dsimp only; omega) _
end Go.Proofs.YtaoobcjannbnjaaDoor
