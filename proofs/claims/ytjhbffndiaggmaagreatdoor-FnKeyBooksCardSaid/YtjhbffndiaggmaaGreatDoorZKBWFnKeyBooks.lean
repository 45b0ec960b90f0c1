/-
  The walk through FnKeyBooks. The conditions are bounds on lengths, and the library's variables.
-/
import Derived.Test.YtjhbffndiaggmaaGreatDoorZKBCurK
import Derived.Test.YtjhbffndiaggmaaGreatDoorBKB31
import Derived.Test.YtjhbffndiaggmaaGreatDoorBKB3
import Derived.Test.YtjhbffndiaggmaaGreatDoorBKB35
import Derived.Test.YtjhbffndiaggmaaGreatDoorZKBMerge
import Derived.Test.YtjhbffndiaggmaaGreatDoorBKB32
import Derived.Deep.DeepCutAuto
import Derived.Deep.CutBlock
namespace Go.Proofs.YtjhbffndiaggmaaGreatDoor
open Go.RowKit Go.ChangeShapes Go.WideShapes
set_option linter.unusedVariables false
set_option linter.unusedSimpArgs false

theorem wrap_sum {a b c d : Nat} (h : a + b = c + d) (hb : c + d ≤ 1000) (s : Int) (hs : s = (c : Int) + (d : Int)) : IntKind.i64.wrap ((a : Int) + (b : Int)) = s ∧ IntKind.i64.wrap ((c : Int) + (d : Int)) = s ∧ wrap64 ((a : Int) + (b : Int)) = s ∧ wrap64 ((c : Int) + (d : Int)) = s := by
  have e : (a : Int) + (b : Int) = s := by omega
  have h1 : IntKind.i64.wrap s = s := IntWalk.i64_in _ (by omega)
  have h2 : wrap64 s = s := IntWalk.wrap64_in _ (by omega)
  rw [e, ← hs]
  exact ⟨h1, h1, h2, h2⟩
theorem Own.topH {w : World} {lo hi : Nat} {v : Value} {zs : List Int} (h : Own w lo hi v zs) : Own w 0 w.heap.size v zs := ⟨(h.mono (Nat.zero_le lo) (Nat.le_refl hi)).1, fun k hk => (h.lt k hk).2.2⟩
theorem iKeyBookText_w (k1 p1 : Int) (us : List Int) (A1 : Option Addr) (c1 : Nat) {l h : Nat} (w : World) (hr : Rd w l h A1 us) (hl : us.length ≤ 1048576) (hP : Pow w) (T : ByteArray) (v : Bool) (hE : str (ktL k1 p1 us) = T ∧ kbB k1 p1 us = v) :
    Calls Tryz.prog 8 #[.agg #[.int .i64 k1, .int .i64 p1, .slice A1 us.length c1]] w fun e w' => e = .returned (.tuple #[.string T, .bool v]) ∧ Below w.heap.size w w' := by
  obtain ⟨rfl, rfl⟩ := hE
  exact iKeyBookText_any k1 p1 us A1 c1 w hr hl hP
theorem iPagesLeft_k (k1 p1 : Int) (us : List Int) (A1 : Option Addr) (c1 : Nat) {l h : Nat} (w : World) (hr : Rd w l h A1 us) (hl : us.length ≤ 1048576) (V : Int) (v : Bool) (hE : plV k1 p1 us = V ∧ kbB k1 p1 us = v) :
    Calls Tryz.prog 10 #[.agg #[.int .i64 k1, .int .i64 p1, .slice A1 us.length c1]] w fun e w' => e = .returned (.tuple #[.int .i64 V, .bool v]) ∧ Below w.heap.size w w' := by
  obtain ⟨rfl, rfl⟩ := hE
  exact iPagesLeft_any k1 p1 us A1 c1 w hr hl
theorem iUseNextPage_k (k1 p1 : Int) (us : List Int) (A1 : Option Addr) (c1 : Nat) {l h : Nat} (w : World) (ho : Own w l h (.slice A1 us.length c1) us) (hl : us.length ≤ 1048576) (K G V : Int) (L : List Int) (v : Bool) (hE : unK k1 p1 us = K ∧ unP k1 p1 us = G ∧ unL k1 p1 us = L ∧ unV k1 p1 us = V ∧ unB k1 p1 us = v) :
    Calls Tryz.prog 12 #[.agg #[.int .i64 k1, .int .i64 p1, .slice A1 us.length c1]] w fun e w' => ∃ A c, e = .returned (.tuple #[.agg #[.int .i64 K, .int .i64 G, .slice A L.length c], .int .i64 V, .bool v]) ∧ Own w' w.heap.size w'.heap.size (.slice A L.length c) L ∧ L.length ≤ 1048576 ∧ Below w.heap.size w w' := by
  obtain ⟨rfl, rfl, rfl, rfl, rfl⟩ := hE
  exact iUseNextPage_any k1 p1 us A1 c1 w ho hl
theorem iUsePage_k (k1 p1 : Int) (us : List Int) (A1 : Option Addr) (c1 : Nat) (page : Int) {l h : Nat} (w : World) (ho : Own w l h (.slice A1 us.length c1) us) (hl : us.length ≤ 1048576) (K G : Int) (L : List Int) (v : Bool) (hE : upK k1 p1 us page = K ∧ upP k1 p1 us page = G ∧ upL k1 p1 us page = L ∧ upB k1 p1 us page = v) :
    Calls Tryz.prog 17 #[.agg #[.int .i64 k1, .int .i64 p1, .slice A1 us.length c1], .int .i64 page] w fun e w' => ∃ A c, e = .returned (.tuple #[.agg #[.int .i64 K, .int .i64 G, .slice A L.length c], .bool v]) ∧ Rd w' 0 w'.heap.size A L ∧ L.length ≤ 1048576 ∧ Below w.heap.size w w' := by
  obtain ⟨rfl, rfl, rfl, rfl⟩ := hE
  refine (iUsePage_any k1 p1 us A1 c1 page w ho hl).mono ?_
  rintro e w' ⟨A, c, he, q, n, hb⟩
  exact ⟨A, c, he, q.rd'.std, n, hb⟩
theorem iMergeKeyBooks_k (k1 p1 : Int) (us : List Int) (A1 : Option Addr) (c1 : Nat) (k2 p2 : Int) (ys : List Int) (A2 : Option Addr) (c2 : Nat) {l h l' h' : Nat} (w : World) (hr : Rd w l h A1 us) (hs : Rd w l' h' A2 ys) (hl : us.length ≤ 1048576) (hl' : ys.length ≤ 1048576) (K G : Int) (L : List Int) (v : Bool) (hE : mbK k1 p1 us k2 p2 ys = K ∧ mbG k1 p1 us k2 p2 ys = G ∧ mbL k1 p1 us k2 p2 ys = L ∧ kpB k1 p1 us k2 p2 ys = v) :
    Calls Tryz.prog 20 #[.agg #[.int .i64 k1, .int .i64 p1, .slice A1 us.length c1], .agg #[.int .i64 k2, .int .i64 p2, .slice A2 ys.length c2]] w fun e w' => ∃ A c, e = .returned (.tuple #[.agg #[.int .i64 K, .int .i64 G, .slice A L.length c], .bool v]) ∧ Rd w' 0 w'.heap.size A L ∧ L.length ≤ 1048576 ∧ Below w.heap.size w w' := by
  obtain ⟨rfl, rfl, rfl, rfl⟩ := hE
  refine (iMergeKeyBooks_any k1 p1 us A1 c1 k2 p2 ys A2 c2 w hr hs hl hl').mono ?_
  rintro e w' ⟨A, c, he, q, n, hb⟩
  exact ⟨A, c, he, q.rd'.std, n, hb⟩
theorem iDoubleUse_k (k1 p1 : Int) (us : List Int) (A1 : Option Addr) (c1 : Nat) (k2 p2 : Int) (ys : List Int) (A2 : Option Addr) (c2 : Nat) {l h l' h' : Nat} (w : World) (hr : Rd w l h A1 us) (hs : Rd w l' h' A2 ys) (hl : us.length ≤ 1048576) (hl' : ys.length ≤ 1048576) (L : List Int) (v : Bool) (hE : duL k1 p1 us k2 p2 ys = L ∧ kpB k1 p1 us k2 p2 ys = v) :
    Calls Tryz.prog 22 #[.agg #[.int .i64 k1, .int .i64 p1, .slice A1 us.length c1], .agg #[.int .i64 k2, .int .i64 p2, .slice A2 ys.length c2]] w fun e w' => ∃ A c, e = .returned (.tuple #[.slice A L.length c, .bool v]) ∧ Rd w' 0 w'.heap.size A L ∧ L.length ≤ 1048576 ∧ Below w.heap.size w w' := by
  obtain ⟨rfl, rfl⟩ := hE
  refine (iDoubleUse_any k1 p1 us A1 c1 k2 p2 ys A2 c2 w hr hs hl hl').mono ?_
  rintro e w' ⟨A, c, he, q, n, hb⟩
  exact ⟨A, c, he, q.rd'.std, n, hb⟩
theorem iParseKeyBook_k (t : ByteArray) (w : World) (hl : t.size ≤ 1048576) (hS : Sen w) (K G : Int) (L : List Int) (v : Bool) (hE : pkK t.data.toList = K ∧ pkP t.data.toList = G ∧ pkL t.data.toList = L ∧ pkB t.data.toList = v) :
    Calls Tryz.prog 16 #[.string t] w fun e w' => ∃ A c, e = .returned (.tuple #[.agg #[.int .i64 K, .int .i64 G, .slice A L.length c], .bool v]) ∧ Rd w' 0 w'.heap.size A L ∧ L.length ≤ 1048576 ∧ Below w.heap.size w w' := by
  obtain ⟨rfl, rfl, rfl, rfl⟩ := hE
  have h := iParseKeyBook_l t.data.toList w (by rw [Array.length_toList]; exact hl) hS
  rw [str_of] at h
  refine h.mono ?_
  rintro e w' ⟨A, c, he, q, n, hb⟩
  exact ⟨A, c, he, q.rd'.std, n, hb⟩
theorem sKeyBookText_w (k1 p1 : Int) (us : List Int) (A1 : Option Addr) (c1 : Nat) {l h : Nat} (w : World) (hr : Rd w l h A1 us) (hl : us.length ≤ 1048576) (T : ByteArray) (v : Bool) (hE : str (ktL k1 p1 us) = T ∧ kbB k1 p1 us = v) :
    Calls Tryz.prog 9 #[.agg #[.int .i64 k1, .int .i64 p1, .slice A1 us.length c1]] w fun e w' => e = .returned (.tuple #[.string T, .bool v]) ∧ Below w.heap.size w w' := by
  obtain ⟨rfl, rfl⟩ := hE
  exact sKeyBookText_any k1 p1 us A1 c1 w hr hl
theorem sPagesLeft_k (k1 p1 : Int) (us : List Int) (A1 : Option Addr) (c1 : Nat) {l h : Nat} (w : World) (hr : Rd w l h A1 us) (hl : us.length ≤ 1048576) (V : Int) (v : Bool) (hE : plV k1 p1 us = V ∧ kbB k1 p1 us = v) :
    Calls Tryz.prog 11 #[.agg #[.int .i64 k1, .int .i64 p1, .slice A1 us.length c1]] w fun e w' => e = .returned (.tuple #[.int .i64 V, .bool v]) ∧ Below w.heap.size w w' := by
  obtain ⟨rfl, rfl⟩ := hE
  exact sPagesLeft_any k1 p1 us A1 c1 w hr hl
theorem sUseNextPage_k (k1 p1 : Int) (us : List Int) (A1 : Option Addr) (c1 : Nat) {l h : Nat} (w : World) (ho : Own w l h (.slice A1 us.length c1) us) (hl : us.length ≤ 1048576) (K G V : Int) (L : List Int) (v : Bool) (hE : unK k1 p1 us = K ∧ unP k1 p1 us = G ∧ unL k1 p1 us = L ∧ unV k1 p1 us = V ∧ unB k1 p1 us = v) :
    Calls Tryz.prog 13 #[.agg #[.int .i64 k1, .int .i64 p1, .slice A1 us.length c1]] w fun e w' => ∃ A c, e = .returned (.tuple #[.agg #[.int .i64 K, .int .i64 G, .slice A L.length c], .int .i64 V, .bool v]) ∧ Rd w' 0 w'.heap.size A L ∧ L.length ≤ 1048576 ∧ Below w.heap.size w w' := by
  obtain ⟨rfl, rfl, rfl, rfl, rfl⟩ := hE
  exact sUseNextPage_any k1 p1 us A1 c1 w ho hl
theorem sUsePage_k (k1 p1 : Int) (us : List Int) (A1 : Option Addr) (c1 : Nat) (page : Int) {l h : Nat} (w : World) (ho : Own w l h (.slice A1 us.length c1) us) (hl : us.length ≤ 1048576) (K G : Int) (L : List Int) (v : Bool) (hE : upK k1 p1 us page = K ∧ upP k1 p1 us page = G ∧ upL k1 p1 us page = L ∧ upB k1 p1 us page = v) :
    Calls Tryz.prog 26 #[.agg #[.int .i64 k1, .int .i64 p1, .slice A1 us.length c1], .int .i64 page] w fun e w' => ∃ A c, e = .returned (.tuple #[.agg #[.int .i64 K, .int .i64 G, .slice A L.length c], .bool v]) ∧ Rd w' 0 w'.heap.size A L ∧ L.length ≤ 1048576 ∧ Below w.heap.size w w' := by
  obtain ⟨rfl, rfl, rfl, rfl⟩ := hE
  refine (sUsePage_any k1 p1 us A1 c1 page w ho hl).mono ?_
  rintro e w' ⟨A, c, he, q, n, hb⟩
  exact ⟨A, c, he, q, n, hb⟩
theorem sMergeKeyBooks_k (k1 p1 : Int) (us : List Int) (A1 : Option Addr) (c1 : Nat) (k2 p2 : Int) (ys : List Int) (A2 : Option Addr) (c2 : Nat) {l h l' h' : Nat} (w : World) (hr : Rd w l h A1 us) (hs : Rd w l' h' A2 ys) (hl : us.length ≤ 1048576) (hl' : ys.length ≤ 1048576) (K G : Int) (L : List Int) (v : Bool) (hE : mbK k1 p1 us k2 p2 ys = K ∧ mbG k1 p1 us k2 p2 ys = G ∧ mbL k1 p1 us k2 p2 ys = L ∧ kpB k1 p1 us k2 p2 ys = v) :
    Calls Tryz.prog 21 #[.agg #[.int .i64 k1, .int .i64 p1, .slice A1 us.length c1], .agg #[.int .i64 k2, .int .i64 p2, .slice A2 ys.length c2]] w fun e w' => ∃ A c, e = .returned (.tuple #[.agg #[.int .i64 K, .int .i64 G, .slice A L.length c], .bool v]) ∧ Rd w' 0 w'.heap.size A L ∧ L.length ≤ 1048576 ∧ Below w.heap.size w w' := by
  obtain ⟨rfl, rfl, rfl, rfl⟩ := hE
  refine (sMergeKeyBooks_any k1 p1 us A1 c1 k2 p2 ys A2 c2 w hr hs hl hl').mono ?_
  rintro e w' ⟨A, c, he, q, n, hb⟩
  exact ⟨A, c, he, q.std, n, hb⟩
theorem sDoubleUse_k (k1 p1 : Int) (us : List Int) (A1 : Option Addr) (c1 : Nat) (k2 p2 : Int) (ys : List Int) (A2 : Option Addr) (c2 : Nat) {l h l' h' : Nat} (w : World) (hr : Rd w l h A1 us) (hs : Rd w l' h' A2 ys) (hl : us.length ≤ 1048576) (hl' : ys.length ≤ 1048576) (L : List Int) (v : Bool) (hE : duL k1 p1 us k2 p2 ys = L ∧ kpB k1 p1 us k2 p2 ys = v) :
    Calls Tryz.prog 23 #[.agg #[.int .i64 k1, .int .i64 p1, .slice A1 us.length c1], .agg #[.int .i64 k2, .int .i64 p2, .slice A2 ys.length c2]] w fun e w' => ∃ A c, e = .returned (.tuple #[.slice A L.length c, .bool v]) ∧ Rd w' 0 w'.heap.size A L ∧ L.length ≤ 1048576 ∧ Below w.heap.size w w' := by
  obtain ⟨rfl, rfl⟩ := hE
  refine (sDoubleUse_any k1 p1 us A1 c1 k2 p2 ys A2 c2 w hr hs hl hl').mono ?_
  rintro e w' ⟨A, c, he, q, n, hb⟩
  exact ⟨A, c, he, q, n, hb⟩
theorem sParseKeyBook_k (t : ByteArray) (w : World) (hl : t.size ≤ 1048576) (K G : Int) (L : List Int) (v : Bool) (hE : pkK t.data.toList = K ∧ pkP t.data.toList = G ∧ pkL t.data.toList = L ∧ pkB t.data.toList = v) :
    Calls Tryz.prog 28 #[.string t] w fun e w' => ∃ A c, e = .returned (.tuple #[.agg #[.int .i64 K, .int .i64 G, .slice A L.length c], .bool v]) ∧ Rd w' 0 w'.heap.size A L ∧ L.length ≤ 1048576 ∧ Below w.heap.size w w' := by
  obtain ⟨rfl, rfl, rfl, rfl⟩ := hE
  have h := sParseKeyBook_l t.data.toList w (by rw [Array.length_toList]; exact hl)
  rw [str_of] at h
  refine h.mono ?_
  rintro e w' ⟨A, c, he, q, n, hb⟩
  exact ⟨A, c, he, q, n, hb⟩
theorem iIsKeyBook_k (k1 p1 : Int) (us : List Int) (A1 : Option Addr) (c1 : Nat) {l h : Nat} (w : World) (hr : Rd w l h A1 us) (hl : us.length ≤ 1048576) (v : Bool) (hv : kbB k1 p1 us = v) :
    Calls Tryz.prog 15 #[.agg #[.int .i64 k1, .int .i64 p1, .slice A1 us.length c1]] w fun e w' => e = .returned (.bool v) ∧ Below w.heap.size w w' := by
  subst hv; exact iIsKeyBook_any k1 p1 us A1 c1 w hr (by omega)
set_option maxRecDepth 100000 in
set_option maxHeartbeats 16000000 in
theorem fnKeyBooks_walk (A1 A2 : Option Addr) (n1 c1 n2 c2 : Nat) (w : World) (h1 : n1 ≤ c1) (h2 : n2 ≤ c2) (m1 : n1 ≤ 9223372036854775807) (m2 : n2 ≤ 9223372036854775807) (hcd1 : CodeAt w w.heap.size A1 n1) (hcd2 : CodeAt w w.heap.size A2 n2) (hS0 : Sen w) :
    Calls Tryz.prog 3 #[.slice A1 n1 c1, .slice A2 n2 c2] w fun e w' => e = .returned (.bool true) ∧ Below w.heap.size w w' := by
  go_enter Tryz.func3, Tryz.ntmps3
  go_wp2_with fail
  (with_reducible refine (big_v A1 A2 n1 c1 n2 c2 _ m1 m2).mono ?_)
  rintro e w0 hbig
  rcases hbig with ⟨rfl, hbig, rfl⟩ | ⟨rfl, rfl⟩
  · clear hbig
    have hB := Below.refl w.heap.size w
    have hcd := hcd2
    have hS := hS0
    clear hS0
    go_wp2_with fail
    (with_reducible refine (drawKeyBookText_any A1 n1 c1 _ hcd1 m1 h1).mono ?_)
    rintro e w1 ⟨ky, pg, us, A, c, rfl, hus, ou, b1⟩
    have s1 : w.heap.size ≤ w1.heap.size := b1.size
    replace hB := hB.trans (Below.mono b1 hB.size)
    replace hcd := hcd.st b1
    replace hS := hS.st b1
    clear b1
    clear hcd1
    replace ou := ou.mono (Nat.zero_le _) (Nat.le_refl _)
    obtain ⟨T, hT⟩ : ∃ u, str (ktL ky pg us) = u := ⟨_, rfl⟩
    obtain ⟨v, hv⟩ : ∃ u, kbB ky pg us = u := ⟨_, rfl⟩
    have hTx := Lib.hid (And.intro hT hv)
    clear hT hv
    obtain ⟨V, hV⟩ : ∃ u, plV ky pg us = u := ⟨_, rfl⟩
    have hVb := plv_bd ky pg us
    rw [hV] at hVb
    have hVH := Lib.hid (And.intro hV hTx.out.2)
    clear hV
    obtain ⟨K, hK⟩ : ∃ u, unK ky pg us = u := ⟨_, rfl⟩
    obtain ⟨G, hG⟩ : ∃ u, unP ky pg us = u := ⟨_, rfl⟩
    obtain ⟨L, hL⟩ : ∃ u, unL ky pg us = u := ⟨_, rfl⟩
    obtain ⟨N, hN⟩ : ∃ u, unV ky pg us = u := ⟨_, rfl⟩
    obtain ⟨u, hu⟩ : ∃ u, unB ky pg us = u := ⟨_, rfl⟩
    have hUx := Lib.hid (And.intro hK (And.intro hG (And.intro hL (And.intro hN hu))))
    clear hK hG hL hN hu
    have hu : Hid (u = (v && decide (0 < V))) := Lib.hid (by rw [← hUx.out.2.2.2.2, un_eq, hVH.out.1, hTx.out.2])
    have hTl : T.size ≤ 2000 := by rw [← hTx.out.1, str_size]; exact kt_len _ _ _
    go_wp2_with fail
    obtain ⟨w2, hw2⟩ : ∃ u, u = w1.alloc (.cells #[.int .i64 ky, .int .i64 pg, .slice A us.length c] 26) := ⟨_, rfl⟩
    rw [← hw2]
    have e2 : w2.heap.size = w1.heap.size + 1 := by rw [hw2]; simp
    have s2 : w1.heap.size + 1 ≤ w2.heap.size := by omega
    have b2 : Below w1.heap.size w1 w2 := by rw [hw2]; exact (Below.refl _ _).alloc (Nat.le_refl _) _
    have k5 : Bk w2 (w1.heap.size) 26 #[.int .i64 ky, .int .i64 pg, .slice A us.length c] := by rw [hw2]; exact Bk.new _ _ _
    replace hB := hB.trans (Below.mono b2 hB.size)
    replace hcd := hcd.st b2
    replace hS := hS.st b2
    replace ou := ou.st b2
    replace e2 := Lib.hid e2
    clear b2 hw2
    (with_reducible refine (iKeyBookText_w ky pg us A c _ ou.rd' (by omega) hS.pow T v hTx.out).mono ?_)
    rintro e w3 ⟨rfl, b3⟩
    have s3 : w2.heap.size ≤ w3.heap.size := b3.size
    replace hB := hB.trans (Below.mono b3 hB.size)
    replace hcd := hcd.st b3
    replace hS := hS.st b3
    replace ou := ou.st b3
    replace k5 := k5.st b3
    clear b3
    have xl := k5.lt
    have x0 := k5.cell 0
    have x1 := k5.cell 1
    have x2 := k5.cell 2
    simp at x0 x1 x2
    go_wp2_with fail
    clear xl x0 x1 x2
    (with_reducible refine (sKeyBookText_w ky pg us A c _ ou.rd' (by omega) T v hTx.out).mono ?_)
    rintro e w4 ⟨rfl, b4⟩
    have s4 : w3.heap.size ≤ w4.heap.size := b4.size
    replace hB := hB.trans (Below.mono b4 hB.size)
    replace hcd := hcd.st b4
    replace hS := hS.st b4
    replace ou := ou.st b4
    replace k5 := k5.st b4
    clear b4
    have xl := k5.lt
    have x0 := k5.cell 0
    have x1 := k5.cell 1
    have x2 := k5.cell 2
    simp at x0 x1 x2
    go_wp2_with fail
    clear xl x0 x1 x2
    (with_reducible refine (iPagesLeft_k ky pg us A c _ ou.rd' (by omega) V v hVH.out).mono ?_)
    rintro e w5 ⟨rfl, b5⟩
    have s5 : w4.heap.size ≤ w5.heap.size := b5.size
    replace hB := hB.trans (Below.mono b5 hB.size)
    replace hcd := hcd.st b5
    replace hS := hS.st b5
    replace ou := ou.st b5
    replace k5 := k5.st b5
    clear b5
    have xl := k5.lt
    have x0 := k5.cell 0
    have x1 := k5.cell 1
    have x2 := k5.cell 2
    simp at x0 x1 x2
    go_wp2_with fail
    clear xl x0 x1 x2
    (with_reducible refine (sPagesLeft_k ky pg us A c _ ou.rd' (by omega) V v hVH.out).mono ?_)
    rintro e w6 ⟨rfl, b6⟩
    have s6 : w5.heap.size ≤ w6.heap.size := b6.size
    replace hB := hB.trans (Below.mono b6 hB.size)
    replace hcd := hcd.st b6
    replace hS := hS.st b6
    replace ou := ou.st b6
    replace k5 := k5.st b6
    clear b6
    have xl := k5.lt
    have x0 := k5.cell 0
    have x1 := k5.cell 1
    have x2 := k5.cell 2
    simp at x0 x1 x2
    go_wp2_with fail
    clear xl x0 x1 x2
    (with_reducible refine (iUseNextPage_k ky pg us A c _ ou (by omega) K G N L u hUx.out).mono ?_)
    rintro e w7 ⟨A8, c8, rfl, o8, nL, b7⟩
    have s7 : w6.heap.size ≤ w7.heap.size := b7.size
    replace hB := hB.trans (Below.mono b7 hB.size)
    replace hcd := hcd.st b7
    replace hS := hS.st b7
    replace ou := ou.st b7
    replace k5 := k5.st b7
    clear b7
    replace o8 := o8.mono (Nat.zero_le _) (Nat.le_refl _)
    skip
    have xl := k5.lt
    have x0 := k5.cell 0
    have x1 := k5.cell 1
    have x2 := k5.cell 2
    simp at x0 x1 x2
    go_wp2_with fail
    clear xl x0 x1 x2
    obtain ⟨w8, hw8⟩ : ∃ u, u = w7.alloc (.cells #[.int .i64 K, .int .i64 G, .slice A8 L.length c8] 26) := ⟨_, rfl⟩
    rw [← hw8]
    have e8 : w8.heap.size = w7.heap.size + 1 := by rw [hw8]; simp
    have s8 : w7.heap.size + 1 ≤ w8.heap.size := by omega
    have b8 : Below w7.heap.size w7 w8 := by rw [hw8]; exact (Below.refl _ _).alloc (Nat.le_refl _) _
    have k8 : Bk w8 (w7.heap.size) 26 #[.int .i64 K, .int .i64 G, .slice A8 L.length c8] := by rw [hw8]; exact Bk.new _ _ _
    replace hB := hB.trans (Below.mono b8 hB.size)
    replace hcd := hcd.st b8
    replace hS := hS.st b8
    replace ou := ou.st b8
    replace k5 := k5.st b8
    replace o8 := o8.st b8
    replace e8 := Lib.hid e8
    clear b8 hw8
    (with_reducible refine (sUseNextPage_k ky pg us A c _ ou (by omega) K G N L u hUx.out).mono ?_)
    rintro e w9 ⟨A9, c9, rfl, r9, -, b9⟩
    have s9 : w8.heap.size ≤ w9.heap.size := b9.size
    replace hB := hB.trans (Below.mono b9 hB.size)
    replace hcd := hcd.st b9
    replace hS := hS.st b9
    replace ou := ou.st b9
    replace k5 := k5.st b9
    replace o8 := o8.st b9
    replace k8 := k8.st b9
    clear b9
    go_upto_region 10 with fail
    obtain ⟨w10, hw10⟩ : ∃ u, u = w9.alloc (.cells #[.int .i64 K, .int .i64 G, .slice A9 L.length c9] 26) := ⟨_, rfl⟩
    rw [← hw10]
    have e10 : w10.heap.size = w9.heap.size + 1 := by rw [hw10]; simp
    have s10 : w9.heap.size + 1 ≤ w10.heap.size := by omega
    have b10 : Below w9.heap.size w9 w10 := by rw [hw10]; exact (Below.refl _ _).alloc (Nat.le_refl _) _
    have k9 : Bk w10 (w9.heap.size) 26 #[.int .i64 K, .int .i64 G, .slice A9 L.length c9] := by rw [hw10]; exact Bk.new _ _ _
    replace hB := hB.trans (Below.mono b10 hB.size)
    replace hcd := hcd.st b10
    replace hS := hS.st b10
    replace ou := ou.st b10
    replace k5 := k5.st b10
    replace o8 := o8.st b10
    replace k8 := k8.st b10
    replace r9 := r9.st b10
    replace e10 := Lib.hid e10
    clear b10 hw10
    go_cut [137] (fun s6 wq => s6 = .bool false ∧ Below w.heap.size w wq ∧ CodeAt wq wq.heap.size A2 n2 ∧ Sen wq ∧ Bk wq (w1.heap.size) 26 #[.int .i64 ky, .int .i64 pg, .slice A us.length c] ∧ Own wq 0 wq.heap.size (.slice A us.length c) us ∧ Bk wq (w7.heap.size) 26 #[.int .i64 K, .int .i64 G, .slice A8 L.length c8] ∧ Own wq 0 wq.heap.size (.slice A8 L.length c8) L)
    case first =>
      as_aux_lemma =>
        have xl := k8.lt
        have x0 := k8.cell 0
        have x1 := k8.cell 1
        have x2 := k8.cell 2
        simp at x0 x1 x2
        have yl := k9.lt
        have y0 := k9.cell 0
        have y1 := k9.cell 1
        have y2 := k9.cell 2
        simp at y0 y1 y2
        go_wp2_with fail
        clear xl x0 x1 x2 yl y0 y1 y2
        (with_reducible refine (pSameKeys_t K G L A8 A9 L.length L.length c8 c9 _ rfl rfl o8.rd' r9 nL).mono ?_)
        rintro e w11 ⟨rfl, b11⟩
        have s11 : w10.heap.size ≤ w11.heap.size := b11.size
        replace hB := hB.trans (Below.mono b11 hB.size)
        replace hcd := hcd.st b11
        replace hS := hS.st b11
        replace ou := ou.st b11
        replace k5 := k5.st b11
        replace o8 := o8.st b11
        replace k8 := k8.st b11
        replace r9 := r9.st b11
        replace k9 := k9.st b11
        clear b11
        clear r9 k9
        have xl := k5.lt
        have x0 := k5.cell 0
        have x1 := k5.cell 1
        have x2 := k5.cell 2
        simp at x0 x1 x2
        go_wp2_with fail
        clear xl x0 x1 x2
        (with_reducible refine (iIsKeyBook_k ky pg us A c _ ou.rd' (by omega) v hTx.out.2).mono ?_)
        rintro e w12 ⟨rfl, b12⟩
        have s12 : w11.heap.size ≤ w12.heap.size := b12.size
        replace hB := hB.trans (Below.mono b12 hB.size)
        replace hcd := hcd.st b12
        replace hS := hS.st b12
        replace ou := ou.st b12
        replace k5 := k5.st b12
        replace o8 := o8.st b12
        replace k8 := k8.st b12
        clear b12
        replace ou := ou.topH
        replace o8 := o8.topH
        have hall := Lib.hid (And.intro hB (And.intro hcd (And.intro hS (And.intro k5 (And.intro ou (And.intro k8 o8))))))
        clear hB hcd hS k5 ou k8 o8
        have hu2 := hu.out
        clear hu
        cases v with
        | false =>
          rw [Bool.false_and] at hu2
          subst hu2
          go_wp2_with fail
          go_meet
          case rel => exact ⟨by first | rfl | simp, hall.out.1, hall.out.2.1, hall.out.2.2.1, hall.out.2.2.2.1, hall.out.2.2.2.2.1, hall.out.2.2.2.2.2.1, hall.out.2.2.2.2.2.2⟩
        | true =>
          by_cases hV0 : 0 < V
          · obtain rfl : u = true := by rw [hu2]; simp [hV0]
            clear hu2
            go_wp2_with fail
            go_meet
            case rel => exact ⟨by first | rfl | simp [hV0], hall.out.1, hall.out.2.1, hall.out.2.2.1, hall.out.2.2.2.1, hall.out.2.2.2.2.1, hall.out.2.2.2.2.2.1, hall.out.2.2.2.2.2.2⟩
          · obtain rfl : u = false := by rw [hu2]; simp [hV0]
            clear hu2
            go_wp2_with fail
            go_meet
            case rel => exact ⟨by first | rfl | simp [hV0], hall.out.1, hall.out.2.1, hall.out.2.2.1, hall.out.2.2.2.1, hall.out.2.2.2.2.1, hall.out.2.2.2.2.2.1, hall.out.2.2.2.2.2.2⟩
    case rest =>
      as_aux_lemma =>
        clear hB hcd hS ou k5 o8 k8 r9 k9
        obtain ⟨rfl, hB, hcd, hS, k5, ou, k8, o8⟩ := hcut
        obtain ⟨wa, rfl⟩ : ∃ u, u = wc := ⟨_, rfl⟩
        go_upto_if 138 with fail
        go_cut [] (fun wq => Below w.heap.size w wq ∧ CodeAt wq wq.heap.size A2 n2 ∧ Sen wq ∧ Bk wq (w1.heap.size) 26 #[.int .i64 ky, .int .i64 pg, .slice A us.length c] ∧ Own wq 0 wq.heap.size (.slice A us.length c) us ∧ Bk wq (w7.heap.size) 26 #[.int .i64 K, .int .i64 G, .slice A8 L.length c8] ∧ Own wq 0 wq.heap.size (.slice A8 L.length c8) L)
        case first =>
          as_aux_lemma =>
            cases v with
            | false =>
              have hall := Lib.hid (And.intro hB (And.intro hcd (And.intro hS (And.intro k5 (And.intro ou (And.intro k8 o8))))))
              clear hB hcd hS k5 ou k8 o8
              go_wp2_with fail
              go_meet
              case rel => exact ⟨hall.out.1, hall.out.2.1, hall.out.2.2.1, hall.out.2.2.2.1, hall.out.2.2.2.2.1, hall.out.2.2.2.2.2.1, hall.out.2.2.2.2.2.2⟩
            | true =>
              have hbk : Hid (pkK T.data.toList = ky ∧ pkP T.data.toList = pg ∧ pkL T.data.toList = us ∧ pkB T.data.toList = true) := Lib.hid (by have h := kt_back hTx.out.2; rw [← hTx.out.1, str_toList]; exact h)
              go_wp2_with fail
              (with_reducible refine (iParseKeyBook_k T _ (by omega) hS ky pg us true hbk.out).mono ?_)
              rintro e w13 ⟨A20, c20, rfl, r20, -, b13⟩
              have s13 : wa.heap.size ≤ w13.heap.size := b13.size
              replace hB := hB.trans (Below.mono b13 hB.size)
              replace hcd := hcd.st b13
              replace hS := hS.st b13
              replace k5 := k5.st b13
              replace ou := ou.st b13
              replace k8 := k8.st b13
              replace o8 := o8.st b13
              clear b13
              have xl := k5.lt
              have x0 := k5.cell 0
              have x1 := k5.cell 1
              have x2 := k5.cell 2
              simp at x0 x1 x2
              go_wp2_with fail
              clear xl x0 x1 x2
              obtain ⟨w14, hw14⟩ : ∃ u, u = w13.alloc (.cells #[.int .i64 ky, .int .i64 pg, .slice A20 us.length c20] 26) := ⟨_, rfl⟩
              rw [← hw14]
              have e14 : w14.heap.size = w13.heap.size + 1 := by rw [hw14]; simp
              have s14 : w13.heap.size + 1 ≤ w14.heap.size := by omega
              have b14 : Below w13.heap.size w13 w14 := by rw [hw14]; exact (Below.refl _ _).alloc (Nat.le_refl _) _
              have k20 : Bk w14 (w13.heap.size) 26 #[.int .i64 ky, .int .i64 pg, .slice A20 us.length c20] := by rw [hw14]; exact Bk.new _ _ _
              replace hB := hB.trans (Below.mono b14 hB.size)
              replace hcd := hcd.st b14
              replace hS := hS.st b14
              replace k5 := k5.st b14
              replace ou := ou.st b14
              replace k8 := k8.st b14
              replace o8 := o8.st b14
              replace r20 := r20.st b14
              replace e14 := Lib.hid e14
              clear b14 hw14
              (with_reducible refine (pSameKeys_t ky pg us A20 A us.length us.length c20 c _ rfl rfl r20 ou.rd' (by omega)).mono ?_)
              rintro e w15 ⟨rfl, b15⟩
              have s15 : w14.heap.size ≤ w15.heap.size := b15.size
              replace hB := hB.trans (Below.mono b15 hB.size)
              replace hcd := hcd.st b15
              replace hS := hS.st b15
              replace k5 := k5.st b15
              replace ou := ou.st b15
              replace k8 := k8.st b15
              replace o8 := o8.st b15
              replace r20 := r20.st b15
              replace k20 := k20.st b15
              clear b15
              clear r20 k20
              replace ou := ou.topH
              replace o8 := o8.topH
              have hall := Lib.hid (And.intro hB (And.intro hcd (And.intro hS (And.intro k5 (And.intro ou (And.intro k8 o8))))))
              clear hB hcd hS k5 ou k8 o8
              go_wp2_with fail
              go_meet
              case rel => exact ⟨hall.out.1, hall.out.2.1, hall.out.2.2.1, hall.out.2.2.2.1, hall.out.2.2.2.2.1, hall.out.2.2.2.2.2.1, hall.out.2.2.2.2.2.2⟩
        case rest =>
          as_aux_lemma =>
            clear hB hcd hS k5 ou k8 o8
            obtain ⟨hB, hcd, hS, k5, ou, k8, o8⟩ := hcut
            obtain ⟨wb, rfl⟩ : ∃ u, u = wc := ⟨_, rfl⟩
            go_upto_if 152 with fail
            go_cut [] (fun wq => Below w.heap.size w wq ∧ CodeAt wq wq.heap.size A2 n2 ∧ Sen wq)
            case first =>
              as_aux_lemma =>
                cases u with
                | false =>
                  have hall := Lib.hid (And.intro hB (And.intro hcd hS))
                  clear hB hcd hS
                  clear k5 ou k8 o8
                  go_wp2_with fail
                  go_meet
                  case rel => exact ⟨hall.out.1, hall.out.2.1, hall.out.2.2⟩
                | true =>
                  obtain ⟨g1, g2, g3, g4, g5⟩ := un_fact hUx.out.2.2.2.2 hUx.out.1 hUx.out.2.1 hUx.out.2.2.1 hUx.out.2.2.2.1
                  rw [hVH.out.1] at g3 g5
                  have hPL := Lib.hid (And.intro g3 g2)
                  have hnb := Lib.hid g4
                  clear g2 g3 g4
                  obtain ⟨q1, q2, q3⟩ := up_no g1
                  have hUP := Lib.hid (And.intro q1 (And.intro q2 (And.intro q3 g1)))
                  clear q1 q2 q3 g1
                  have xl := k8.lt
                  have x0 := k8.cell 0
                  have x1 := k8.cell 1
                  have x2 := k8.cell 2
                  simp at x0 x1 x2
                  go_wp2_with fail
                  clear xl x0 x1 x2
                  (with_reducible refine (iUsePage_k K G L A8 c8 N _ o8 nL 0 0 [] false hUP.out).mono ?_)
                  rintro e w16 ⟨A22, c22, rfl, -, -, b16⟩
                  have s16 : wb.heap.size ≤ w16.heap.size := b16.size
                  replace hB := hB.trans (Below.mono b16 hB.size)
                  replace hcd := hcd.st b16
                  replace hS := hS.st b16
                  replace k5 := k5.st b16
                  replace ou := ou.st b16
                  replace k8 := k8.st b16
                  replace o8 := o8.st b16
                  clear b16
                  have xl := k8.lt
                  have x0 := k8.cell 0
                  have x1 := k8.cell 1
                  have x2 := k8.cell 2
                  simp at x0 x1 x2
                  go_wp2_with fail
                  clear xl x0 x1 x2
                  obtain ⟨w17, hw17⟩ : ∃ u, u = w16.alloc (.cells #[.int .i64 0, .int .i64 0, .slice A22 0 c22] 26) := ⟨_, rfl⟩
                  rw [← hw17]
                  have e17 : w17.heap.size = w16.heap.size + 1 := by rw [hw17]; simp
                  have s17 : w16.heap.size + 1 ≤ w17.heap.size := by omega
                  have b17 : Below w16.heap.size w16 w17 := by rw [hw17]; exact (Below.refl _ _).alloc (Nat.le_refl _) _
                  replace hB := hB.trans (Below.mono b17 hB.size)
                  replace hcd := hcd.st b17
                  replace hS := hS.st b17
                  replace k5 := k5.st b17
                  replace ou := ou.st b17
                  replace k8 := k8.st b17
                  replace o8 := o8.st b17
                  replace e17 := Lib.hid e17
                  clear b17 hw17
                  (with_reducible refine (iPagesLeft_k K G L A8 c8 _ o8.rd' nL (V - 1) true hPL.out).mono ?_)
                  rintro e w18 ⟨rfl, b18⟩
                  have s18 : w17.heap.size ≤ w18.heap.size := b18.size
                  replace hB := hB.trans (Below.mono b18 hB.size)
                  replace hcd := hcd.st b18
                  replace hS := hS.st b18
                  replace k5 := k5.st b18
                  replace ou := ou.st b18
                  replace k8 := k8.st b18
                  replace o8 := o8.st b18
                  clear b18
                  have v1 : IntKind.i64.wrap (V - 1) = V - 1 := IntWalk.i64_in _ (by omega)
                  have v2 : wrap64 (V - 1) = V - 1 := IntWalk.wrap64_in _ (by omega)
                  have xl := k5.lt
                  have x0 := k5.cell 0
                  have x1 := k5.cell 1
                  have x2 := k5.cell 2
                  simp at x0 x1 x2
                  go_wp2_with fail
                  (with_reducible refine (pIn_v us A us.length c N _ rfl ou.rd' (by omega) false hnb.out).mono ?_)
                  rintro ee ww ⟨rfl, hww⟩
                  subst hww
                  clear v1 v2 xl x0 x1 x2
                  have hall := Lib.hid (And.intro hB (And.intro hcd hS))
                  clear hB hcd hS
                  clear k5 ou k8 o8
                  go_wp2_with fail
                  go_meet
                  case rel => exact ⟨hall.out.1, hall.out.2.1, hall.out.2.2⟩
            case rest =>
              as_aux_lemma =>
                clear hB hcd hS k5 ou k8 o8
                obtain ⟨hB, hcd, hS⟩ := hcut
                obtain ⟨wd, rfl⟩ : ∃ u, u = wc := ⟨_, rfl⟩
                clear hTx hVb hVH hUx hu hTl
                go_wp2_with fail
                (with_reducible refine (drawMergeKeyBooks_any A2 n2 c2 _ hcd m2 h2).mono ?_)
                rintro e w19 ⟨x1, y1, xs, A26, c26, x2, y2, ys, B27, d27, rfl, ⟨hxs, hys⟩, rx, ry, b19⟩
                have s19 : wd.heap.size ≤ w19.heap.size := b19.size
                replace hB := hB.trans (Below.mono b19 hB.size)
                replace hcd := hcd.st b19
                replace hS := hS.st b19
                clear b19
                obtain ⟨mK, hmK⟩ : ∃ u, mbK x1 y1 xs x2 y2 ys = u := ⟨_, rfl⟩
                obtain ⟨mG, hmG⟩ : ∃ u, mbG x1 y1 xs x2 y2 ys = u := ⟨_, rfl⟩
                obtain ⟨mL, hmL⟩ : ∃ u, mbL x1 y1 xs x2 y2 ys = u := ⟨_, rfl⟩
                obtain ⟨w5, hw5⟩ : ∃ u, kpB x1 y1 xs x2 y2 ys = u := ⟨_, rfl⟩
                have hMx := Lib.hid (And.intro hmK (And.intro hmG (And.intro hmL hw5)))
                clear hmK hmG hmL hw5
                obtain ⟨D, hD⟩ : ∃ u, duL x1 y1 xs x2 y2 ys = u := ⟨_, rfl⟩
                have hDH := Lib.hid (And.intro hD hMx.out.2.2.2)
                clear hD
                go_wp2_with fail
                obtain ⟨w20, hw20⟩ : ∃ u, u = w19.alloc (.cells #[.int .i64 x1, .int .i64 y1, .slice A26 xs.length c26] 26) := ⟨_, rfl⟩
                rw [← hw20]
                have e20 : w20.heap.size = w19.heap.size + 1 := by rw [hw20]; simp
                have s20 : w19.heap.size + 1 ≤ w20.heap.size := by omega
                have b20 : Below w19.heap.size w19 w20 := by rw [hw20]; exact (Below.refl _ _).alloc (Nat.le_refl _) _
                have k26 : Bk w20 (w19.heap.size) 26 #[.int .i64 x1, .int .i64 y1, .slice A26 xs.length c26] := by rw [hw20]; exact Bk.new _ _ _
                replace hB := hB.trans (Below.mono b20 hB.size)
                replace hcd := hcd.st b20
                replace hS := hS.st b20
                replace rx := rx.st b20
                replace ry := ry.st b20
                replace e20 := Lib.hid e20
                clear b20 hw20
                obtain ⟨w21, hw21⟩ : ∃ u, u = w20.alloc (.cells #[.int .i64 x2, .int .i64 y2, .slice B27 ys.length d27] 26) := ⟨_, rfl⟩
                rw [← hw21]
                have e21 : w21.heap.size = w20.heap.size + 1 := by rw [hw21]; simp
                have s21 : w20.heap.size + 1 ≤ w21.heap.size := by omega
                have b21 : Below w20.heap.size w20 w21 := by rw [hw21]; exact (Below.refl _ _).alloc (Nat.le_refl _) _
                have a21 : w20.heap.size = w19.heap.size + 1 := by have h0 := e8.out; have h1 := e10.out; have h2 := e20.out; omega
                have k27 : Bk w21 (w19.heap.size + 1) 26 #[.int .i64 x2, .int .i64 y2, .slice B27 ys.length d27] := by rw [← a21]; rw [hw21]; exact Bk.new _ _ _
                replace hB := hB.trans (Below.mono b21 hB.size)
                replace hcd := hcd.st b21
                replace hS := hS.st b21
                replace rx := rx.st b21
                replace ry := ry.st b21
                replace k26 := k26.st b21
                replace e21 := Lib.hid e21
                clear b21 hw21 a21
                (with_reducible refine (iMergeKeyBooks_k x1 y1 xs A26 c26 x2 y2 ys B27 d27 _ rx ry (by omega) (by omega) mK mG mL w5 hMx.out).mono ?_)
                rintro e w22 ⟨A28, c28, rfl, r28, nM, b22⟩
                have s22 : w21.heap.size ≤ w22.heap.size := b22.size
                replace hB := hB.trans (Below.mono b22 hB.size)
                replace hcd := hcd.st b22
                replace hS := hS.st b22
                replace rx := rx.st b22
                replace ry := ry.st b22
                replace k26 := k26.st b22
                replace k27 := k27.st b22
                clear b22
                have xl := k26.lt
                have x0 := k26.cell 0
                have x1 := k26.cell 1
                have x2 := k26.cell 2
                simp at x0 x1 x2
                have yl := k27.lt
                have y0 := k27.cell 0
                have y1 := k27.cell 1
                have y2 := k27.cell 2
                simp at y0 y1 y2
                go_wp2_with fail
                clear xl x0 x1 x2 yl y0 y1 y2
                obtain ⟨w23, hw23⟩ : ∃ u, u = w22.alloc (.cells #[.int .i64 mK, .int .i64 mG, .slice A28 mL.length c28] 26) := ⟨_, rfl⟩
                rw [← hw23]
                have e23 : w23.heap.size = w22.heap.size + 1 := by rw [hw23]; simp
                have s23 : w22.heap.size + 1 ≤ w23.heap.size := by omega
                have b23 : Below w22.heap.size w22 w23 := by rw [hw23]; exact (Below.refl _ _).alloc (Nat.le_refl _) _
                have k28 : Bk w23 (w22.heap.size) 26 #[.int .i64 mK, .int .i64 mG, .slice A28 mL.length c28] := by rw [hw23]; exact Bk.new _ _ _
                replace hB := hB.trans (Below.mono b23 hB.size)
                replace hcd := hcd.st b23
                replace hS := hS.st b23
                replace rx := rx.st b23
                replace ry := ry.st b23
                replace k26 := k26.st b23
                replace k27 := k27.st b23
                replace r28 := r28.st b23
                replace e23 := Lib.hid e23
                clear b23 hw23
                (with_reducible refine (sMergeKeyBooks_k x1 y1 xs A26 c26 x2 y2 ys B27 d27 _ rx ry (by omega) (by omega) mK mG mL w5 hMx.out).mono ?_)
                rintro e w24 ⟨A30, c30, rfl, r30, -, b24⟩
                have s24 : w23.heap.size ≤ w24.heap.size := b24.size
                replace hB := hB.trans (Below.mono b24 hB.size)
                replace hcd := hcd.st b24
                replace hS := hS.st b24
                replace rx := rx.st b24
                replace ry := ry.st b24
                replace k26 := k26.st b24
                replace k27 := k27.st b24
                replace r28 := r28.st b24
                replace k28 := k28.st b24
                clear b24
                have xl := k26.lt
                have x0 := k26.cell 0
                have x1 := k26.cell 1
                have x2 := k26.cell 2
                simp at x0 x1 x2
                have yl := k27.lt
                have y0 := k27.cell 0
                have y1 := k27.cell 1
                have y2 := k27.cell 2
                simp at y0 y1 y2
                go_wp2_with fail
                clear xl x0 x1 x2 yl y0 y1 y2
                obtain ⟨w25, hw25⟩ : ∃ u, u = w24.alloc (.cells #[.int .i64 mK, .int .i64 mG, .slice A30 mL.length c30] 26) := ⟨_, rfl⟩
                rw [← hw25]
                have e25 : w25.heap.size = w24.heap.size + 1 := by rw [hw25]; simp
                have s25 : w24.heap.size + 1 ≤ w25.heap.size := by omega
                have b25 : Below w24.heap.size w24 w25 := by rw [hw25]; exact (Below.refl _ _).alloc (Nat.le_refl _) _
                have k30 : Bk w25 (w24.heap.size) 26 #[.int .i64 mK, .int .i64 mG, .slice A30 mL.length c30] := by rw [hw25]; exact Bk.new _ _ _
                replace hB := hB.trans (Below.mono b25 hB.size)
                replace hcd := hcd.st b25
                replace hS := hS.st b25
                replace rx := rx.st b25
                replace ry := ry.st b25
                replace k26 := k26.st b25
                replace k27 := k27.st b25
                replace r28 := r28.st b25
                replace k28 := k28.st b25
                replace r30 := r30.st b25
                replace e25 := Lib.hid e25
                clear b25 hw25
                (with_reducible refine (iDoubleUse_k x1 y1 xs A26 c26 x2 y2 ys B27 d27 _ rx ry (by omega) (by omega) D w5 hDH.out).mono ?_)
                rintro e w26 ⟨A32, c32, rfl, r32, nD, b26⟩
                have s26 : w25.heap.size ≤ w26.heap.size := b26.size
                replace hB := hB.trans (Below.mono b26 hB.size)
                replace hcd := hcd.st b26
                replace hS := hS.st b26
                replace rx := rx.st b26
                replace ry := ry.st b26
                replace k26 := k26.st b26
                replace k27 := k27.st b26
                replace r28 := r28.st b26
                replace k28 := k28.st b26
                replace r30 := r30.st b26
                replace k30 := k30.st b26
                clear b26
                have xl := k26.lt
                have x0 := k26.cell 0
                have x1 := k26.cell 1
                have x2 := k26.cell 2
                simp at x0 x1 x2
                have yl := k27.lt
                have y0 := k27.cell 0
                have y1 := k27.cell 1
                have y2 := k27.cell 2
                simp at y0 y1 y2
                go_wp2_with fail
                clear xl x0 x1 x2 yl y0 y1 y2
                (with_reducible refine (sDoubleUse_k x1 y1 xs A26 c26 x2 y2 ys B27 d27 _ rx ry (by omega) (by omega) D w5 hDH.out).mono ?_)
                rintro e w27 ⟨A34, c34, rfl, r34, -, b27⟩
                have s27 : w26.heap.size ≤ w27.heap.size := b27.size
                replace hB := hB.trans (Below.mono b27 hB.size)
                replace hcd := hcd.st b27
                replace hS := hS.st b27
                replace rx := rx.st b27
                replace ry := ry.st b27
                replace k26 := k26.st b27
                replace k27 := k27.st b27
                replace r28 := r28.st b27
                replace k28 := k28.st b27
                replace r30 := r30.st b27
                replace k30 := k30.st b27
                replace r32 := r32.st b27
                clear b27
                have xl := k28.lt
                have x0 := k28.cell 0
                have x1 := k28.cell 1
                have x2 := k28.cell 2
                simp at x0 x1 x2
                have yl := k30.lt
                have y0 := k30.cell 0
                have y1 := k30.cell 1
                have y2 := k30.cell 2
                simp at y0 y1 y2
                go_wp2_with fail
                clear xl x0 x1 x2 yl y0 y1 y2
                (with_reducible refine (pSameKeys_t mK mG mL A28 A30 mL.length mL.length c28 c30 _ rfl rfl r28 r30 nM).mono ?_)
                rintro e w28 ⟨rfl, b28⟩
                have s28 : w27.heap.size ≤ w28.heap.size := b28.size
                replace hB := hB.trans (Below.mono b28 hB.size)
                replace hcd := hcd.st b28
                replace hS := hS.st b28
                replace rx := rx.st b28
                replace ry := ry.st b28
                replace k26 := k26.st b28
                replace k27 := k27.st b28
                replace r28 := r28.st b28
                replace k28 := k28.st b28
                replace r30 := r30.st b28
                replace k30 := k30.st b28
                replace r32 := r32.st b28
                replace r34 := r34.st b28
                clear b28
                go_wp2_with fail
                (with_reducible refine (sameInts_t D A32 A34 D.length D.length c32 c34 _ rfl rfl r32 r34 nD).mono ?_)
                rintro e w29 ⟨rfl, b29⟩
                have s29 : w28.heap.size ≤ w29.heap.size := b29.size
                replace hB := hB.trans (Below.mono b29 hB.size)
                replace hcd := hcd.st b29
                replace hS := hS.st b29
                replace rx := rx.st b29
                replace ry := ry.st b29
                replace k26 := k26.st b29
                replace k27 := k27.st b29
                replace r28 := r28.st b29
                replace k28 := k28.st b29
                replace r30 := r30.st b29
                replace k30 := k30.st b29
                replace r32 := r32.st b29
                replace r34 := r34.st b29
                clear b29
                clear r32 r34 r30 rx ry
                go_upto_region 28 with fail
                go_cut [256] (fun s6 wq => s6 = .bool false ∧ Below w.heap.size w wq ∧ CodeAt wq wq.heap.size A2 n2 ∧ Sen wq)
                case first =>
                  as_aux_lemma =>
                    cases w5 with
                    | false =>
                      have hall := Lib.hid (And.intro hB (And.intro hcd hS))
                      clear hB hcd hS
                      clear r28 k26 k27 k28 k30
                      go_wp2_with fail
                      go_meet
                      case rel => exact ⟨by first | rfl | simp, hall.out.1, hall.out.2.1, hall.out.2.2⟩
                    | true =>
                      obtain ⟨g1, g2, g3, g4, g5, g6⟩ := mb_fact hMx.out.2.2.2 hMx.out.1 hMx.out.2.1 hMx.out.2.2.1 hDH.out.1
                      have hkb := Lib.hid g1
                      clear g1
                      obtain ⟨s, hs⟩ : ∃ s : Int, s = (xs.length : Int) + (ys.length : Int) := ⟨_, rfl⟩
                      obtain ⟨e1, e2, e3, e4⟩ := wrap_sum g2 (by omega) s hs
                      clear hs g2 g3 g4 g5 g6
                      have xl := k26.lt
                      have x0 := k26.cell 0
                      have x1 := k26.cell 1
                      have x2 := k26.cell 2
                      simp at x0 x1 x2
                      have yl := k27.lt
                      have y0 := k27.cell 0
                      have y1 := k27.cell 1
                      have y2 := k27.cell 2
                      simp at y0 y1 y2
                      have zl := k28.lt
                      have z0 := k28.cell 0
                      have z1 := k28.cell 1
                      have z2 := k28.cell 2
                      simp at z0 z1 z2
                      have tl := k30.lt
                      have t0 := k30.cell 0
                      have t1 := k30.cell 1
                      have t2 := k30.cell 2
                      simp at t0 t1 t2
                      go_wp2_with fail
                      clear e1 e2 e3 e4 xl x0 x1 x2 yl y0 y1 y2 zl z0 z1 z2 tl t0 t1 t2
                      (with_reducible refine (iIsKeyBook_k mK mG mL A28 c28 _ r28 nM true hkb.out).mono ?_)
                      rintro e w30 ⟨rfl, b30⟩
                      have s30 : w29.heap.size ≤ w30.heap.size := b30.size
                      replace hB := hB.trans (Below.mono b30 hB.size)
                      replace hcd := hcd.st b30
                      replace hS := hS.st b30
                      replace k26 := k26.st b30
                      replace k27 := k27.st b30
                      replace r28 := r28.st b30
                      replace k28 := k28.st b30
                      replace k30 := k30.st b30
                      clear b30
                      have hall := Lib.hid (And.intro hB (And.intro hcd hS))
                      clear hB hcd hS
                      clear r28 k26 k27 k28 k30
                      go_wp2_with fail
                      go_meet
                      case rel => exact ⟨by first | rfl | simp, hall.out.1, hall.out.2.1, hall.out.2.2⟩
                case rest =>
                  as_aux_lemma =>
                    clear hB hcd hS k26 k27 r28 k28 k30
                    obtain ⟨rfl, hB, hcd, hS⟩ := hcut
                    obtain ⟨we, rfl⟩ : ∃ u, u = wc := ⟨_, rfl⟩
                    go_wp2_with fail
                    (with_reducible refine (drawUsePage_any A2 n2 c2 _ hcd m2 h2).mono ?_)
                    rintro e w31 ⟨z1, zp, zs, A36, c36, pa, rfl, hzs, oz, b31⟩
                    have s31 : we.heap.size ≤ w31.heap.size := b31.size
                    replace hB := hB.trans (Below.mono b31 hB.size)
                    replace hcd := hcd.st b31
                    replace hS := hS.st b31
                    clear b31
                    obtain ⟨uK, huK⟩ : ∃ u, upK z1 zp zs pa = u := ⟨_, rfl⟩
                    obtain ⟨uG, huG⟩ : ∃ u, upP z1 zp zs pa = u := ⟨_, rfl⟩
                    obtain ⟨uL, huL⟩ : ∃ u, upL z1 zp zs pa = u := ⟨_, rfl⟩
                    obtain ⟨v9, hv9⟩ : ∃ u, upB z1 zp zs pa = u := ⟨_, rfl⟩
                    have hU9 := Lib.hid (And.intro huK (And.intro huG (And.intro huL hv9)))
                    clear huK huG huL hv9
                    go_wp2_with fail
                    obtain ⟨w32, hw32⟩ : ∃ u, u = w31.alloc (.cells #[.int .i64 z1, .int .i64 zp, .slice A36 zs.length c36] 26) := ⟨_, rfl⟩
                    rw [← hw32]
                    have e32 : w32.heap.size = w31.heap.size + 1 := by rw [hw32]; simp
                    have s32 : w31.heap.size + 1 ≤ w32.heap.size := by omega
                    have b32 : Below w31.heap.size w31 w32 := by rw [hw32]; exact (Below.refl _ _).alloc (Nat.le_refl _) _
                    have k36 : Bk w32 (w31.heap.size) 26 #[.int .i64 z1, .int .i64 zp, .slice A36 zs.length c36] := by rw [hw32]; exact Bk.new _ _ _
                    replace hB := hB.trans (Below.mono b32 hB.size)
                    replace hcd := hcd.st b32
                    replace hS := hS.st b32
                    replace oz := oz.st b32
                    replace e32 := Lib.hid e32
                    clear b32 hw32
                    skip
                    (with_reducible refine (iUsePage_k z1 zp zs A36 c36 pa _ oz (by omega) uK uG uL v9 hU9.out).mono ?_)
                    rintro e w33 ⟨A38, c38, rfl, r38, nU, b33⟩
                    have s33 : w32.heap.size ≤ w33.heap.size := b33.size
                    replace hB := hB.trans (Below.mono b33 hB.size)
                    replace hcd := hcd.st b33
                    replace hS := hS.st b33
                    replace oz := oz.st b33
                    replace k36 := k36.st b33
                    clear b33
                    have xl := k36.lt
                    have x0 := k36.cell 0
                    have x1 := k36.cell 1
                    have x2 := k36.cell 2
                    simp at x0 x1 x2
                    go_wp2_with fail
                    clear xl x0 x1 x2
                    obtain ⟨w34, hw34⟩ : ∃ u, u = w33.alloc (.cells #[.int .i64 uK, .int .i64 uG, .slice A38 uL.length c38] 26) := ⟨_, rfl⟩
                    rw [← hw34]
                    have e34 : w34.heap.size = w33.heap.size + 1 := by rw [hw34]; simp
                    have s34 : w33.heap.size + 1 ≤ w34.heap.size := by omega
                    have b34 : Below w33.heap.size w33 w34 := by rw [hw34]; exact (Below.refl _ _).alloc (Nat.le_refl _) _
                    have k38 : Bk w34 (w33.heap.size) 26 #[.int .i64 uK, .int .i64 uG, .slice A38 uL.length c38] := by rw [hw34]; exact Bk.new _ _ _
                    replace hB := hB.trans (Below.mono b34 hB.size)
                    replace hcd := hcd.st b34
                    replace hS := hS.st b34
                    replace oz := oz.st b34
                    replace k36 := k36.st b34
                    replace r38 := r38.st b34
                    replace e34 := Lib.hid e34
                    clear b34 hw34
                    (with_reducible refine (sUsePage_k z1 zp zs A36 c36 pa _ oz (by omega) uK uG uL v9 hU9.out).mono ?_)
                    rintro e w35 ⟨A40, c40, rfl, r40, -, b35⟩
                    have s35 : w34.heap.size ≤ w35.heap.size := b35.size
                    replace hB := hB.trans (Below.mono b35 hB.size)
                    replace hcd := hcd.st b35
                    replace hS := hS.st b35
                    replace oz := oz.st b35
                    replace k36 := k36.st b35
                    replace r38 := r38.st b35
                    replace k38 := k38.st b35
                    clear b35
                    go_wp2_with fail
                    obtain ⟨w36, hw36⟩ : ∃ u, u = w35.alloc (.cells #[.int .i64 uK, .int .i64 uG, .slice A40 uL.length c40] 26) := ⟨_, rfl⟩
                    rw [← hw36]
                    have e36 : w36.heap.size = w35.heap.size + 1 := by rw [hw36]; simp
                    have s36 : w35.heap.size + 1 ≤ w36.heap.size := by omega
                    have b36 : Below w35.heap.size w35 w36 := by rw [hw36]; exact (Below.refl _ _).alloc (Nat.le_refl _) _
                    have k40 : Bk w36 (w35.heap.size) 26 #[.int .i64 uK, .int .i64 uG, .slice A40 uL.length c40] := by rw [hw36]; exact Bk.new _ _ _
                    replace hB := hB.trans (Below.mono b36 hB.size)
                    replace hcd := hcd.st b36
                    replace hS := hS.st b36
                    replace oz := oz.st b36
                    replace k36 := k36.st b36
                    replace r38 := r38.st b36
                    replace k38 := k38.st b36
                    replace r40 := r40.st b36
                    replace e36 := Lib.hid e36
                    clear b36 hw36
                    (with_reducible refine (drawParseKeyBook_any A2 n2 c2 _ hcd m2 h2).mono ?_)
                    rintro e w37 ⟨t, rfl, ht, b37⟩
                    have s37 : w36.heap.size ≤ w37.heap.size := b37.size
                    replace hB := hB.trans (Below.mono b37 hB.size)
                    replace hcd := hcd.st b37
                    replace hS := hS.st b37
                    replace oz := oz.st b37
                    replace k36 := k36.st b37
                    replace r38 := r38.st b37
                    replace k38 := k38.st b37
                    replace r40 := r40.st b37
                    replace k40 := k40.st b37
                    clear b37
                    clear hcd
                    obtain ⟨rK, hrK⟩ : ∃ u, pkK t.data.toList = u := ⟨_, rfl⟩
                    obtain ⟨rG, hrG⟩ : ∃ u, pkP t.data.toList = u := ⟨_, rfl⟩
                    obtain ⟨rL, hrL⟩ : ∃ u, pkL t.data.toList = u := ⟨_, rfl⟩
                    obtain ⟨v11, hv11⟩ : ∃ u, pkB t.data.toList = u := ⟨_, rfl⟩
                    have hRx := Lib.hid (And.intro hrK (And.intro hrG (And.intro hrL hv11)))
                    clear hrK hrG hrL hv11
                    go_wp2_with fail
                    (with_reducible refine (iParseKeyBook_k t _ (by omega) hS rK rG rL v11 hRx.out).mono ?_)
                    rintro e w38 ⟨A43, c43, rfl, r43, nR, b38⟩
                    have s38 : w37.heap.size ≤ w38.heap.size := b38.size
                    replace hB := hB.trans (Below.mono b38 hB.size)
                    replace hS := hS.st b38
                    replace oz := oz.st b38
                    replace k36 := k36.st b38
                    replace r38 := r38.st b38
                    replace k38 := k38.st b38
                    replace r40 := r40.st b38
                    replace k40 := k40.st b38
                    clear b38
                    clear hS
                    go_wp2_with fail
                    obtain ⟨w39, hw39⟩ : ∃ u, u = w38.alloc (.cells #[.int .i64 rK, .int .i64 rG, .slice A43 rL.length c43] 26) := ⟨_, rfl⟩
                    rw [← hw39]
                    have e39 : w39.heap.size = w38.heap.size + 1 := by rw [hw39]; simp
                    have s39 : w38.heap.size + 1 ≤ w39.heap.size := by omega
                    have b39 : Below w38.heap.size w38 w39 := by rw [hw39]; exact (Below.refl _ _).alloc (Nat.le_refl _) _
                    have k43 : Bk w39 (w38.heap.size) 26 #[.int .i64 rK, .int .i64 rG, .slice A43 rL.length c43] := by rw [hw39]; exact Bk.new _ _ _
                    replace hB := hB.trans (Below.mono b39 hB.size)
                    replace oz := oz.st b39
                    replace k36 := k36.st b39
                    replace r38 := r38.st b39
                    replace k38 := k38.st b39
                    replace r40 := r40.st b39
                    replace k40 := k40.st b39
                    replace r43 := r43.st b39
                    replace e39 := Lib.hid e39
                    clear b39 hw39
                    (with_reducible refine (sParseKeyBook_k t _ (by omega) rK rG rL v11 hRx.out).mono ?_)
                    rintro e w40 ⟨A45, c45, rfl, r45, -, b40⟩
                    have s40 : w39.heap.size ≤ w40.heap.size := b40.size
                    replace hB := hB.trans (Below.mono b40 hB.size)
                    replace oz := oz.st b40
                    replace k36 := k36.st b40
                    replace r38 := r38.st b40
                    replace k38 := k38.st b40
                    replace r40 := r40.st b40
                    replace k40 := k40.st b40
                    replace r43 := r43.st b40
                    replace k43 := k43.st b40
                    clear b40
                    have xl := k38.lt
                    have x0 := k38.cell 0
                    have x1 := k38.cell 1
                    have x2 := k38.cell 2
                    simp at x0 x1 x2
                    have yl := k40.lt
                    have y0 := k40.cell 0
                    have y1 := k40.cell 1
                    have y2 := k40.cell 2
                    simp at y0 y1 y2
                    go_wp2_with fail
                    clear xl x0 x1 x2 yl y0 y1 y2
                    obtain ⟨w41, hw41⟩ : ∃ u, u = w40.alloc (.cells #[.int .i64 rK, .int .i64 rG, .slice A45 rL.length c45] 26) := ⟨_, rfl⟩
                    rw [← hw41]
                    have e41 : w41.heap.size = w40.heap.size + 1 := by rw [hw41]; simp
                    have s41 : w40.heap.size + 1 ≤ w41.heap.size := by omega
                    have b41 : Below w40.heap.size w40 w41 := by rw [hw41]; exact (Below.refl _ _).alloc (Nat.le_refl _) _
                    have k45 : Bk w41 (w40.heap.size) 26 #[.int .i64 rK, .int .i64 rG, .slice A45 rL.length c45] := by rw [hw41]; exact Bk.new _ _ _
                    replace hB := hB.trans (Below.mono b41 hB.size)
                    replace oz := oz.st b41
                    replace k36 := k36.st b41
                    replace r38 := r38.st b41
                    replace k38 := k38.st b41
                    replace r40 := r40.st b41
                    replace k40 := k40.st b41
                    replace r43 := r43.st b41
                    replace k43 := k43.st b41
                    replace r45 := r45.st b41
                    replace e41 := Lib.hid e41
                    clear b41 hw41
                    (with_reducible refine (pSameKeys_t uK uG uL A38 A40 uL.length uL.length c38 c40 _ rfl rfl r38 r40 nU).mono ?_)
                    rintro e w42 ⟨rfl, b42⟩
                    have s42 : w41.heap.size ≤ w42.heap.size := b42.size
                    replace hB := hB.trans (Below.mono b42 hB.size)
                    replace oz := oz.st b42
                    replace k36 := k36.st b42
                    replace r38 := r38.st b42
                    replace k38 := k38.st b42
                    replace r40 := r40.st b42
                    replace k40 := k40.st b42
                    replace r43 := r43.st b42
                    replace k43 := k43.st b42
                    replace r45 := r45.st b42
                    replace k45 := k45.st b42
                    clear b42
                    clear r38 k38
                    cases v9 with
                    | false =>
                      have xl := k43.lt
                      have x0 := k43.cell 0
                      have x1 := k43.cell 1
                      have x2 := k43.cell 2
                      simp at x0 x1 x2
                      have yl := k45.lt
                      have y0 := k45.cell 0
                      have y1 := k45.cell 1
                      have y2 := k45.cell 2
                      simp at y0 y1 y2
                      go_wp2_with fail
                      clear xl x0 x1 x2 yl y0 y1 y2
                      (with_reducible refine (pSameKeys_t rK rG rL A43 A45 rL.length rL.length c43 c45 _ rfl rfl r43 r45 nR).mono ?_)
                      rintro e w43 ⟨rfl, b43⟩
                      have s43 : w42.heap.size ≤ w43.heap.size := b43.size
                      replace hB := hB.trans (Below.mono b43 hB.size)
                      replace oz := oz.st b43
                      replace k36 := k36.st b43
                      replace r40 := r40.st b43
                      replace k40 := k40.st b43
                      replace r43 := r43.st b43
                      replace k43 := k43.st b43
                      replace r45 := r45.st b43
                      replace k45 := k45.st b43
                      clear b43
                      have hBH := Lib.hid hB
                      clear hB oz k36 r40 k40 r43 k43 r45 k45
                      go_wp2_with fail
                      go_ret
                      exact ⟨rfl, hBH.out⟩
                    | true =>
                      obtain ⟨g1, g2⟩ := up_fact hU9.out.2.2.2 hU9.out.2.2.1
                      have g1H := Lib.hid g1
                      have g2H := Lib.hid g2
                      clear g1 g2
                      have xl := k40.lt
                      have x0 := k40.cell 0
                      have x1 := k40.cell 1
                      have x2 := k40.cell 2
                      simp at x0 x1 x2
                      go_wp2_with fail
                      (with_reducible refine (pIn_v uL A40 uL.length c40 pa _ rfl r40 nU true g1H.out).mono ?_)
                      rintro ee ww ⟨rfl, hww⟩
                      subst hww
                      clear xl x0 x1 x2
                      have xl := k36.lt
                      have x0 := k36.cell 0
                      have x1 := k36.cell 1
                      have x2 := k36.cell 2
                      simp at x0 x1 x2
                      go_wp2_with fail
                      (with_reducible refine (pIn_v zs A36 zs.length c36 pa _ rfl oz.rd' (by omega) false g2H.out).mono ?_)
                      rintro ee ww ⟨rfl, hww⟩
                      subst hww
                      clear xl x0 x1 x2
                      have xl := k43.lt
                      have x0 := k43.cell 0
                      have x1 := k43.cell 1
                      have x2 := k43.cell 2
                      simp at x0 x1 x2
                      have yl := k45.lt
                      have y0 := k45.cell 0
                      have y1 := k45.cell 1
                      have y2 := k45.cell 2
                      simp at y0 y1 y2
                      go_wp2_with fail
                      clear xl x0 x1 x2 yl y0 y1 y2
                      (with_reducible refine (pSameKeys_t rK rG rL A43 A45 rL.length rL.length c43 c45 _ rfl rfl r43 r45 nR).mono ?_)
                      rintro e w44 ⟨rfl, b44⟩
                      have s44 : w42.heap.size ≤ w44.heap.size := b44.size
                      replace hB := hB.trans (Below.mono b44 hB.size)
                      replace oz := oz.st b44
                      replace k36 := k36.st b44
                      replace r40 := r40.st b44
                      replace k40 := k40.st b44
                      replace r43 := r43.st b44
                      replace k43 := k43.st b44
                      replace r45 := r45.st b44
                      replace k45 := k45.st b44
                      clear b44
                      have hBH := Lib.hid hB
                      clear hB oz k36 r40 k40 r43 k43 r45 k45
                      go_wp2_with fail
                      go_ret
                      exact ⟨rfl, hBH.out⟩
  · go_wp2_with fail
    go_ret
    exact ⟨rfl, Below.refl _ _⟩
end Go.Proofs.YtjhbffndiaggmaaGreatDoor
