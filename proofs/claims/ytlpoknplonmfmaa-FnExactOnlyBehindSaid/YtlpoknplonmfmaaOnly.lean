/-
  Contracts of OnlyBefore and OnlyBehind, in the reference and in the program. The conditions are bounds on lengths.
-/
import Derived.Test.YtlpoknplonmfmaaFindE
import Derived.Test.YtlpoknplonmfmaaIntSS
namespace Go.Proofs.Ytlpoknplonmfmaa
open Go.RowKit Go.ChangeShapes Go.WideShapes
set_option linter.unusedVariables false
set_option linter.unusedSimpArgs false

/-- the message and the part of each of the first k entries of a that b does not have -/
def onTo (a b : List Ent) (k : Nat) : List (List Int) := ((a.take k).filter fun e => decide (findI b e.msg e.part < 0)).map fun e => [e.msg, e.part]
theorem onTo_zero (a b : List Ent) : onTo a b 0 = [] := by simp [onTo]
theorem onTo_yes {a b : List Ent} {k : Nat} (h : k < a.length) (h1 : findI b a[k].msg a[k].part < 0) : onTo a b (k + 1) = onTo a b k ++ [[a[k].msg, a[k].part]] := by
  unfold onTo; rw [List.take_succ_eq_append_getElem h, List.filter_append, List.map_append]; simp [h1]
theorem onTo_no {a b : List Ent} {k : Nat} (h : k < a.length) (h1 : ¬ findI b a[k].msg a[k].part < 0) : onTo a b (k + 1) = onTo a b k := by
  unfold onTo; rw [List.take_succ_eq_append_getElem h, List.filter_append, List.map_append]; simp [h1]
theorem onTo_len (a b : List Ent) (k : Nat) : (onTo a b k).length ≤ k := by
  unfold onTo; rw [List.length_map]; exact Nat.le_trans (List.length_filter_le _ _) (by simp; omega)
theorem onTo_sz (a b : List Ent) (k : Nat) : iszL (onTo a b k) ≤ k * (2 + 1) := by
  refine isz_all (onTo_len a b k) fun x hx => ?_
  unfold onTo at hx
  obtain ⟨e, _, rfl⟩ := List.mem_map.1 hx
  simp
def obB (a b : List Ent) : Bool := logB a && logB b
def obL (a b : List Ent) : List (List Int) := if obB a b then onTo a b a.length else []
def obR (a b : List Ent) : List (List Int) := if obB a b then onTo b a b.length else []
theorem obL_no {a b : List Ent} (h : obB a b = false) : obL a b = [] := by simp [obL, h]
theorem obR_no {a b : List Ent} (h : obB a b = false) : obR a b = [] := by simp [obR, h]
theorem obL_yes {a b : List Ent} (h : obB a b = true) : obL a b = onTo a b a.length := by simp [obL, h]
theorem obR_yes {a b : List Ent} (h : obB a b = true) : obR a b = onTo b a b.length := by simp [obR, h]
theorem logB_len {es : List Ent} (h : logB es = true) : es.length ≤ 30 := by
  simp only [logB, Bool.and_eq_true, decide_eq_true_eq] at h; omega
theorem findI_cast' {es : List Ent} {m p : Int} (h : 0 ≤ findI es m p) : ∃ q : Nat, findI es m p = (q : Int) ∧ q < es.length := by
  rcases findI_cases es m p with ⟨k, hk, e, _⟩ | ⟨e, _⟩
  · exact ⟨k, e, hk⟩
  · omega
set_option maxHeartbeats 1000000 in
theorem rbOnly_any (a : List Ent) (A : Option Addr) (c : Nat) (b : List Ent) (B : Option Addr) (d : Nat) {l h l' h' : Nat} (w : World) (hr0 : RdE w l h A a) (hrb0 : RdE w l' h' B b) (hl : a.length ≤ 1048576) (hlb : b.length ≤ 1048576) :
    Calls Try.prog 89 #[.slice A a.length c, .slice B b.length d] w fun e w' => ∃ A c, e = .returned (.slice A (onTo a b a.length).length c) ∧ OwnI w' w.heap.size w'.heap.size (.slice A (onTo a b a.length).length c) (onTo a b a.length) ∧ Below w.heap.size w w' := by
  have hr := hr0.std
  have hrb := hrb0.std
  clear hr0 hrb0
  go_enter Try.func89, Try.ntmps89
  go_wp2
  go_loopw [5, 7, 10] (fun v _ i wr => ∃ k : Nat, k ≤ a.length ∧ i = .int .i64 k ∧ OwnI wr w.heap.size wr.heap.size v (onTo a b k) ∧ Below w.heap.size w wr) (fun _ _ i _ => a.length - (intOf i).toNat)
  case atStart => exact ⟨0, Nat.zero_le _, rfl, OwnI.nil, Below.refl _ _⟩
  case round =>
    obtain ⟨k, hk, rfl, hown, hbr⟩ := hrel
    have hszr := hbr.size
    by_cases hlt : k < a.length
    · obtain ⟨b0, off, rfl, _, _, hc⟩ := (hr.st hbr) (by omega)
      obtain ⟨A1, c1, A2, c2, x0, x1, x2, x3, x4, r1, r2⟩ := hc k hlt
      have hrb2 := hrb.st hbr
      have hcl2 := onTo_len a b k
      clear hc
      by_cases hneg : findI b a[k].msg a[k].part < 0
      · have hq : findI b a[k].msg a[k].part = -1 := by have := findI_range b a[k].msg a[k].part; omega
        have hst := Lib.hid (onTo_yes hlt hneg)
        clear hneg
        go_wp2_with fail
        (with_reducible refine (lgFind_v b B d a[k].msg a[k].part _ (hrb2.alloc _) (by omega) _ hq).mono ?_)
        rintro e w2 ⟨rfl, hb2⟩
        have ho2 := (hown.alloc (.cells #[.int .i64 a[k].time, .int .i64 a[k].msg, .int .i64 a[k].part, .slice A1 a[k].seen.length c1, .slice A2 a[k].shown.length c2] 72)).st hb2
        have s2 : wr.heap.size + 1 ≤ w2.heap.size := by have := hb2.size; simpa using this
        have hB2 := (hbr.alloc hszr (.cells #[.int .i64 a[k].time, .int .i64 a[k].msg, .int .i64 a[k].part, .slice A1 a[k].seen.length c1, .slice A2 a[k].shown.length c2] 72)).trans (hb2.mono (by simp; omega))
        have bk := (Bk.new wr 72 #[.int .i64 a[k].time, .int .i64 a[k].msg, .int .i64 a[k].part, .slice A1 a[k].seen.length c1, .slice A2 a[k].shown.length c2]).st hb2
        have y1 := bk.cell 1
        have y2 := bk.cell 2
        simp at y1 y2
        clear hb2 hown hbr bk
        go_wp2_with (at_builtin; refine wp_append_made rfl (.tmp 21) (.tmp 27) _ _ rfl rfl rfl (by simp) ho2 (ys := [a[k].msg, a[k].part]) rfl (by omega) (by simp) (by omega) ?_; intro v3 w3 hown3 hb3 hfull3)
        have hB3 := Lib.hid (hB2.trans (hb3.mono (Nat.le_refl _)))
        have ho3 := Lib.hid hown3
        clear hown3 hb3 hB2 ho2 hfull3
        go_roundw
        case rel => exact ⟨k + 1, by omega, by go_num, by rw [hst.out]; exact ho3.out, hB3.out⟩
        case measure => simp [intOf]; omega
      · obtain ⟨qn, hq, hqn⟩ := findI_cast' (by omega : 0 ≤ findI b a[k].msg a[k].part)
        have hst := Lib.hid (onTo_no hlt hneg)
        clear hneg
        go_wp2_with fail
        (with_reducible refine (lgFind_v b B d a[k].msg a[k].part _ (hrb2.alloc _) (by omega) _ hq).mono ?_)
        rintro e w2 ⟨rfl, hb2⟩
        have ho2 := Lib.hid ((hown.alloc (.cells #[.int .i64 a[k].time, .int .i64 a[k].msg, .int .i64 a[k].part, .slice A1 a[k].seen.length c1, .slice A2 a[k].shown.length c2] 72)).st hb2)
        have s2 : wr.heap.size + 1 ≤ w2.heap.size := by have := hb2.size; simpa using this
        have hB2 := Lib.hid ((hbr.alloc hszr (.cells #[.int .i64 a[k].time, .int .i64 a[k].msg, .int .i64 a[k].part, .slice A1 a[k].seen.length c1, .slice A2 a[k].shown.length c2] 72)).trans (hb2.mono (by simp; omega)))
        clear hb2 hown hbr
        go_wp2
        go_roundw
        case rel => exact ⟨k + 1, by omega, by go_num, by rw [hst.out]; exact ho2.out.mono (Nat.le_refl _) (by omega), hB2.out⟩
        case measure => simp [intOf]; omega
    · obtain rfl : k = a.length := by omega
      obtain ⟨A, c, rfl, -, -⟩ := hown.rd
      have ho := Lib.hid hown
      clear hown
      go_wp2
      go_ret
      exact ⟨_, _, rfl, ho.out, hbr⟩

set_option maxHeartbeats 1000000 in
theorem onlyIn_any (a : List Ent) (A : Option Addr) (c : Nat) (b : List Ent) (B : Option Addr) (d : Nat) {l h l' h' : Nat} (w : World) (hr0 : RdE w l h A a) (hrb0 : RdE w l' h' B b) (hl : a.length ≤ 1048576) (hlb : b.length ≤ 1048576) :
    Calls Try.prog 90 #[.slice A a.length c, .slice B b.length d] w fun e w' => ∃ A c, e = .returned (.slice A (onTo a b a.length).length c) ∧ OwnI w' w.heap.size w'.heap.size (.slice A (onTo a b a.length).length c) (onTo a b a.length) ∧ Below w.heap.size w w' := by
  have hr := hr0.std
  have hrb := hrb0.std
  clear hr0 hrb0
  go_enter Try.func90, Try.ntmps90
  go_wp2
  go_loopw [5, 7, 10] (fun v _ i wr => ∃ k : Nat, k ≤ a.length ∧ i = .int .i64 k ∧ OwnI wr w.heap.size wr.heap.size v (onTo a b k) ∧ Below w.heap.size w wr) (fun _ _ i _ => a.length - (intOf i).toNat)
  case atStart => exact ⟨0, Nat.zero_le _, rfl, OwnI.nil, Below.refl _ _⟩
  case round =>
    obtain ⟨k, hk, rfl, hown, hbr⟩ := hrel
    have hszr := hbr.size
    by_cases hlt : k < a.length
    · obtain ⟨b0, off, rfl, _, _, hc⟩ := (hr.st hbr) (by omega)
      obtain ⟨A1, c1, A2, c2, x0, x1, x2, x3, x4, r1, r2⟩ := hc k hlt
      have hrb2 := hrb.st hbr
      have hcl2 := onTo_len a b k
      clear hc
      by_cases hneg : findI b a[k].msg a[k].part < 0
      · have hq : findI b a[k].msg a[k].part = -1 := by have := findI_range b a[k].msg a[k].part; omega
        have hst := Lib.hid (onTo_yes hlt hneg)
        clear hneg
        go_wp2_with fail
        (with_reducible refine (entryIndex_n b B b.length d a[k].msg a[k].part _ (hrb2.alloc _) rfl (by omega) _ hq).mono ?_)
        rintro e w2 ⟨rfl, hb2⟩
        have ho2 := (hown.alloc (.cells #[.int .i64 a[k].time, .int .i64 a[k].msg, .int .i64 a[k].part, .slice A1 a[k].seen.length c1, .slice A2 a[k].shown.length c2] 72)).st hb2
        have s2 : wr.heap.size + 1 ≤ w2.heap.size := by have := hb2.size; simpa using this
        have hB2 := (hbr.alloc hszr (.cells #[.int .i64 a[k].time, .int .i64 a[k].msg, .int .i64 a[k].part, .slice A1 a[k].seen.length c1, .slice A2 a[k].shown.length c2] 72)).trans (hb2.mono (by simp; omega))
        have bk := (Bk.new wr 72 #[.int .i64 a[k].time, .int .i64 a[k].msg, .int .i64 a[k].part, .slice A1 a[k].seen.length c1, .slice A2 a[k].shown.length c2]).st hb2
        have y1 := bk.cell 1
        have y2 := bk.cell 2
        simp at y1 y2
        clear hb2 hown hbr bk
        go_wp2_with (at_builtin; refine wp_append_made rfl (.tmp 21) (.tmp 27) _ _ rfl rfl rfl (by simp) ho2 (ys := [a[k].msg, a[k].part]) rfl (by omega) (by simp) (by omega) ?_; intro v3 w3 hown3 hb3 hfull3)
        have hB3 := Lib.hid (hB2.trans (hb3.mono (Nat.le_refl _)))
        have ho3 := Lib.hid hown3
        clear hown3 hb3 hB2 ho2 hfull3
        go_roundw
        case rel => exact ⟨k + 1, by omega, by go_num, by rw [hst.out]; exact ho3.out, hB3.out⟩
        case measure => simp [intOf]; omega
      · obtain ⟨qn, hq, hqn⟩ := findI_cast' (by omega : 0 ≤ findI b a[k].msg a[k].part)
        have hst := Lib.hid (onTo_no hlt hneg)
        clear hneg
        go_wp2_with fail
        (with_reducible refine (entryIndex_n b B b.length d a[k].msg a[k].part _ (hrb2.alloc _) rfl (by omega) _ hq).mono ?_)
        rintro e w2 ⟨rfl, hb2⟩
        have ho2 := Lib.hid ((hown.alloc (.cells #[.int .i64 a[k].time, .int .i64 a[k].msg, .int .i64 a[k].part, .slice A1 a[k].seen.length c1, .slice A2 a[k].shown.length c2] 72)).st hb2)
        have s2 : wr.heap.size + 1 ≤ w2.heap.size := by have := hb2.size; simpa using this
        have hB2 := Lib.hid ((hbr.alloc hszr (.cells #[.int .i64 a[k].time, .int .i64 a[k].msg, .int .i64 a[k].part, .slice A1 a[k].seen.length c1, .slice A2 a[k].shown.length c2] 72)).trans (hb2.mono (by simp; omega)))
        clear hb2 hown hbr
        go_wp2
        go_roundw
        case rel => exact ⟨k + 1, by omega, by go_num, by rw [hst.out]; exact ho2.out.mono (Nat.le_refl _) (by omega), hB2.out⟩
        case measure => simp [intOf]; omega
    · obtain rfl : k = a.length := by omega
      obtain ⟨A, c, rfl, -, -⟩ := hown.rd
      have ho := Lib.hid hown
      clear hown
      go_wp2
      go_ret
      exact ⟨_, _, rfl, ho.out, hbr⟩

set_option maxHeartbeats 1000000 in
theorem sOnlyBefore_any (a : List Ent) (A : Option Addr) (c : Nat) (b : List Ent) (B : Option Addr) (d : Nat) {l h l' h' : Nat} (w : World) (hr0 : RdE w l h A a) (hrb0 : RdE w l' h' B b) (hl : eszL a ≤ 1048576) (hlb : eszL b ≤ 1048576) :
    Calls Try.prog 44 #[.slice A a.length c, .slice B b.length d] w fun e w' => ∃ A c, e = .returned (.tuple #[.slice A (obL a b).length c, .bool (obB a b)]) ∧ RdI w' 0 w'.heap.size A (obL a b) ∧ iszL (obL a b) ≤ 1048576 ∧ Below w.heap.size w w' := by
  have hr := hr0.std
  have hrb := hrb0.std
  clear hr0 hrb0
  have hel := esz_len a
  have helb := esz_len b
  cases q1 : logB a with
  | false =>
    have hq := show obB a b = false by simp [obB, q1]
    rw [obL_no hq, hq]
    clear hq
    go_enter Try.func44, Try.ntmps44
    go_wp2_with (go_at_call 76; (with_reducible refine (lgGood_v a A c _ hr hl _ q1).mono ?_); rintro e w1 ⟨rfl, hb1⟩)
    go_ret2
    (first | exact ⟨none, 0, rfl, RdI.nil, by rw [isz_nil]; omega, hb1⟩ | exact ⟨none, 0, rfl, RdI.nil, hb1⟩)
  | true =>
    cases q2 : logB b with
    | false =>
      have hq := show obB a b = false by simp [obB, q2]
      rw [obL_no hq, hq]
      clear hq
      go_enter Try.func44, Try.ntmps44
      go_wp2_with fail
      (with_reducible refine (lgGood_v a A c _ hr hl _ q1).mono ?_)
      rintro e w1 ⟨rfl, hb1⟩
      go_wp2_with (go_at_call 76; (with_reducible refine (lgGood_v b B d _ (hrb.st hb1) hlb _ q2).mono ?_); rintro e w2 ⟨rfl, hb2⟩)
      have hbb := hb1.trans (hb2.mono hb1.size)
      go_ret2
      (first | exact ⟨none, 0, rfl, RdI.nil, by rw [isz_nil]; omega, hbb⟩ | exact ⟨none, 0, rfl, RdI.nil, hbb⟩)
    | true =>
      have hq := show obB a b = true by simp [obB, q1, q2]
      rw [obL_yes hq, hq]
      clear hq
      have hsz := Lib.hid (onTo_sz a b a.length)
      have hn := logB_len q1
      have hn2 := logB_len q2
      go_enter Try.func44, Try.ntmps44
      go_wp2_with fail
      (with_reducible refine (lgGood_v a A c _ hr hl _ q1).mono ?_)
      rintro e w1 ⟨rfl, hb1⟩
      go_wp2_with fail
      (with_reducible refine (lgGood_v b B d _ (hrb.st hb1) hlb _ q2).mono ?_)
      rintro e w2 ⟨rfl, hb2⟩
      have hbb := hb1.trans (hb2.mono hb1.size)
      have sz := hbb.size
      go_wp2_with fail
      (with_reducible refine (rbOnly_any a A c b B d _ (hr.st hbb) (hrb.st hbb) (by omega) (by omega)).mono ?_)
      rintro e w3 ⟨A3, c3, rfl, ho3, hb3⟩
      have hB := hbb.trans (hb3.mono sz)
      clear hb3
      go_wp2
      go_ret2
      exact ⟨_, _, rfl, ho3.rd'.std, by have := hsz.out; omega, hB⟩

set_option maxHeartbeats 1000000 in
theorem sOnlyBehind_any (a : List Ent) (A : Option Addr) (c : Nat) (b : List Ent) (B : Option Addr) (d : Nat) {l h l' h' : Nat} (w : World) (hr0 : RdE w l h A a) (hrb0 : RdE w l' h' B b) (hl : eszL a ≤ 1048576) (hlb : eszL b ≤ 1048576) :
    Calls Try.prog 49 #[.slice A a.length c, .slice B b.length d] w fun e w' => ∃ A c, e = .returned (.tuple #[.slice A (obR a b).length c, .bool (obB a b)]) ∧ RdI w' 0 w'.heap.size A (obR a b) ∧ iszL (obR a b) ≤ 1048576 ∧ Below w.heap.size w w' := by
  have hr := hr0.std
  have hrb := hrb0.std
  clear hr0 hrb0
  have hel := esz_len a
  have helb := esz_len b
  cases q1 : logB a with
  | false =>
    have hq := show obB a b = false by simp [obB, q1]
    rw [obR_no hq, hq]
    clear hq
    go_enter Try.func49, Try.ntmps49
    go_wp2_with (go_at_call 76; (with_reducible refine (lgGood_v a A c _ hr hl _ q1).mono ?_); rintro e w1 ⟨rfl, hb1⟩)
    go_ret2
    (first | exact ⟨none, 0, rfl, RdI.nil, by rw [isz_nil]; omega, hb1⟩ | exact ⟨none, 0, rfl, RdI.nil, hb1⟩)
  | true =>
    cases q2 : logB b with
    | false =>
      have hq := show obB a b = false by simp [obB, q2]
      rw [obR_no hq, hq]
      clear hq
      go_enter Try.func49, Try.ntmps49
      go_wp2_with fail
      (with_reducible refine (lgGood_v a A c _ hr hl _ q1).mono ?_)
      rintro e w1 ⟨rfl, hb1⟩
      go_wp2_with (go_at_call 76; (with_reducible refine (lgGood_v b B d _ (hrb.st hb1) hlb _ q2).mono ?_); rintro e w2 ⟨rfl, hb2⟩)
      have hbb := hb1.trans (hb2.mono hb1.size)
      go_ret2
      (first | exact ⟨none, 0, rfl, RdI.nil, by rw [isz_nil]; omega, hbb⟩ | exact ⟨none, 0, rfl, RdI.nil, hbb⟩)
    | true =>
      have hq := show obB a b = true by simp [obB, q1, q2]
      rw [obR_yes hq, hq]
      clear hq
      have hsz := Lib.hid (onTo_sz b a b.length)
      have hn := logB_len q1
      have hn2 := logB_len q2
      go_enter Try.func49, Try.ntmps49
      go_wp2_with fail
      (with_reducible refine (lgGood_v a A c _ hr hl _ q1).mono ?_)
      rintro e w1 ⟨rfl, hb1⟩
      go_wp2_with fail
      (with_reducible refine (lgGood_v b B d _ (hrb.st hb1) hlb _ q2).mono ?_)
      rintro e w2 ⟨rfl, hb2⟩
      have hbb := hb1.trans (hb2.mono hb1.size)
      have sz := hbb.size
      go_wp2_with fail
      (with_reducible refine (rbOnly_any b B d a A c _ (hrb.st hbb) (hr.st hbb) (by omega) (by omega)).mono ?_)
      rintro e w3 ⟨A3, c3, rfl, ho3, hb3⟩
      have hB := hbb.trans (hb3.mono sz)
      clear hb3
      go_wp2
      go_ret2
      exact ⟨_, _, rfl, ho3.rd'.std, by have := hsz.out; omega, hB⟩

set_option maxHeartbeats 1000000 in
theorem iOnlyBefore_any (a : List Ent) (A : Option Addr) (c : Nat) (b : List Ent) (B : Option Addr) (d : Nat) {l h l' h' : Nat} (w : World) (hr0 : RdE w l h A a) (hrb0 : RdE w l' h' B b) (hl : eszL a ≤ 1048576) (hlb : eszL b ≤ 1048576) (hca : a.length ≤ c) (hcb : b.length ≤ d) :
    Calls Try.prog 45 #[.slice A a.length c, .slice B b.length d] w fun e w' => ∃ A c, e = .returned (.tuple #[.slice A (obL a b).length c, .bool (obB a b)]) ∧ OwnI w' w.heap.size w'.heap.size (.slice A (obL a b).length c) (obL a b) ∧ iszL (obL a b) ≤ 1048576 ∧ Below w.heap.size w w' := by
  have hr := hr0.std
  have hrb := hrb0.std
  clear hr0 hrb0
  have hel := esz_len a
  have helb := esz_len b
  cases q1 : logB a with
  | false =>
    have hq := show obB a b = false by simp [obB, q1]
    rw [obL_no hq, hq]
    clear hq
    go_enter Try.func45, Try.ntmps45
    go_wp2_with (go_at_call 75; (with_reducible refine (iIsLog_v a A c _ hr hl hca _ q1).mono ?_); rintro e w1 ⟨rfl, hb1⟩)
    go_ret2
    (first | exact ⟨none, 0, rfl, OwnI.nil, by rw [isz_nil]; omega, hb1⟩ | exact ⟨none, 0, rfl, OwnI.nil, hb1⟩)
  | true =>
    cases q2 : logB b with
    | false =>
      have hq := show obB a b = false by simp [obB, q2]
      rw [obL_no hq, hq]
      clear hq
      go_enter Try.func45, Try.ntmps45
      go_wp2_with fail
      (with_reducible refine (iIsLog_v a A c _ hr hl hca _ q1).mono ?_)
      rintro e w1 ⟨rfl, hb1⟩
      go_wp2_with (go_at_call 75; (with_reducible refine (iIsLog_v b B d _ (hrb.st hb1) hlb hcb _ q2).mono ?_); rintro e w2 ⟨rfl, hb2⟩)
      have hbb := hb1.trans (hb2.mono hb1.size)
      go_ret2
      (first | exact ⟨none, 0, rfl, OwnI.nil, by rw [isz_nil]; omega, hbb⟩ | exact ⟨none, 0, rfl, OwnI.nil, hbb⟩)
    | true =>
      have hq := show obB a b = true by simp [obB, q1, q2]
      rw [obL_yes hq, hq]
      clear hq
      have hsz := Lib.hid (onTo_sz a b a.length)
      have hn := logB_len q1
      have hn2 := logB_len q2
      go_enter Try.func45, Try.ntmps45
      go_wp2_with fail
      (with_reducible refine (iIsLog_v a A c _ hr hl hca _ q1).mono ?_)
      rintro e w1 ⟨rfl, hb1⟩
      go_wp2_with fail
      (with_reducible refine (iIsLog_v b B d _ (hrb.st hb1) hlb hcb _ q2).mono ?_)
      rintro e w2 ⟨rfl, hb2⟩
      have hbb := hb1.trans (hb2.mono hb1.size)
      have sz := hbb.size
      go_wp2_with fail
      (with_reducible refine (onlyIn_any a A c b B d _ (hr.st hbb) (hrb.st hbb) (by omega) (by omega)).mono ?_)
      rintro e w3 ⟨A3, c3, rfl, ho3, hb3⟩
      have hB := hbb.trans (hb3.mono sz)
      clear hb3
      go_wp2
      go_ret2
      exact ⟨_, _, rfl, ho3.mono (by omega) (Nat.le_refl _), by have := hsz.out; omega, hB⟩

set_option maxHeartbeats 1000000 in
theorem iOnlyBehind_any (a : List Ent) (A : Option Addr) (c : Nat) (b : List Ent) (B : Option Addr) (d : Nat) {l h l' h' : Nat} (w : World) (hr0 : RdE w l h A a) (hrb0 : RdE w l' h' B b) (hl : eszL a ≤ 1048576) (hlb : eszL b ≤ 1048576) (hca : a.length ≤ c) (hcb : b.length ≤ d) :
    Calls Try.prog 50 #[.slice A a.length c, .slice B b.length d] w fun e w' => ∃ A c, e = .returned (.tuple #[.slice A (obR a b).length c, .bool (obB a b)]) ∧ OwnI w' w.heap.size w'.heap.size (.slice A (obR a b).length c) (obR a b) ∧ iszL (obR a b) ≤ 1048576 ∧ Below w.heap.size w w' := by
  have hr := hr0.std
  have hrb := hrb0.std
  clear hr0 hrb0
  have hel := esz_len a
  have helb := esz_len b
  cases q1 : logB a with
  | false =>
    have hq := show obB a b = false by simp [obB, q1]
    rw [obR_no hq, hq]
    clear hq
    go_enter Try.func50, Try.ntmps50
    go_wp2_with (go_at_call 75; (with_reducible refine (iIsLog_v a A c _ hr hl hca _ q1).mono ?_); rintro e w1 ⟨rfl, hb1⟩)
    go_ret2
    (first | exact ⟨none, 0, rfl, OwnI.nil, by rw [isz_nil]; omega, hb1⟩ | exact ⟨none, 0, rfl, OwnI.nil, hb1⟩)
  | true =>
    cases q2 : logB b with
    | false =>
      have hq := show obB a b = false by simp [obB, q2]
      rw [obR_no hq, hq]
      clear hq
      go_enter Try.func50, Try.ntmps50
      go_wp2_with fail
      (with_reducible refine (iIsLog_v a A c _ hr hl hca _ q1).mono ?_)
      rintro e w1 ⟨rfl, hb1⟩
      go_wp2_with (go_at_call 75; (with_reducible refine (iIsLog_v b B d _ (hrb.st hb1) hlb hcb _ q2).mono ?_); rintro e w2 ⟨rfl, hb2⟩)
      have hbb := hb1.trans (hb2.mono hb1.size)
      go_ret2
      (first | exact ⟨none, 0, rfl, OwnI.nil, by rw [isz_nil]; omega, hbb⟩ | exact ⟨none, 0, rfl, OwnI.nil, hbb⟩)
    | true =>
      have hq := show obB a b = true by simp [obB, q1, q2]
      rw [obR_yes hq, hq]
      clear hq
      have hsz := Lib.hid (onTo_sz b a b.length)
      have hn := logB_len q1
      have hn2 := logB_len q2
      go_enter Try.func50, Try.ntmps50
      go_wp2_with fail
      (with_reducible refine (iIsLog_v a A c _ hr hl hca _ q1).mono ?_)
      rintro e w1 ⟨rfl, hb1⟩
      go_wp2_with fail
      (with_reducible refine (iIsLog_v b B d _ (hrb.st hb1) hlb hcb _ q2).mono ?_)
      rintro e w2 ⟨rfl, hb2⟩
      have hbb := hb1.trans (hb2.mono hb1.size)
      have sz := hbb.size
      go_wp2_with fail
      (with_reducible refine (onlyIn_any b B d a A c _ (hrb.st hbb) (hr.st hbb) (by omega) (by omega)).mono ?_)
      rintro e w3 ⟨A3, c3, rfl, ho3, hb3⟩
      have hB := hbb.trans (hb3.mono sz)
      clear hb3
      go_wp2
      go_ret2
      exact ⟨_, _, rfl, ho3.mono (by omega) (Nat.le_refl _), by have := hsz.out; omega, hB⟩
end Go.Proofs.Ytlpoknplonmfmaa
