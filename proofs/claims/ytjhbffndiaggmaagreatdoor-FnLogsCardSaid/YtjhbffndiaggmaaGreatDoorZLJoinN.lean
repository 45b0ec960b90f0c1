/-
  Contracts of the program's decimal numbers, joined by a text. The conditions are bounds, and that the library's table of powers of ten lies as it was laid.
-/
import Derived.Test.YtjhbffndiaggmaaGreatDoorZLText
import Derived.Test.YtjhbffndiaggmaaGreatDoorShelfT
import Derived.Lib.LaidTab
import Derived.Lib.AppendIntMem
import Derived.WalkSmall
import Derived.Laws.MakeOwn
namespace Go.Proofs.YtjhbffndiaggmaaGreatDoor
open Go.RowKit Go.ChangeShapes Go.WideShapes
set_option linter.unusedVariables false
set_option linter.unusedSimpArgs false

/-- the library's table of powers of ten -/
def Pow (w : World) : Prop := Lib.TabIs Tryz.prog w "internal/strconv.uint64pow10" .u64 Lib.pow10Tab
theorem powNamed : Tryz.prog.globalNamed "internal/strconv.uint64pow10" = some 1 := by kernel_rfl
theorem Pow.lt {w : World} (h : Pow w) : 1 < w.heap.size :=
  World.block_lt_of_cell? w _ (h.cell powNamed 0 (by rw [Lib.pow10Tab_length]; decide))
theorem Pow.below {w w' : World} {B : Nat} (h : Pow w) (hb : Below B w w') (hB : 1 < B) : Pow w' := var?_below hb powNamed hB h
theorem Pow.st {w w' : World} (h : Pow w) (hb : Below w.heap.size w w') : Pow w' := h.below hb h.lt
theorem Pow.alloc {w : World} (h : Pow w) (o : Obj) : Pow (w.alloc o) := h.st ((Below.refl _ _).alloc (Nat.le_refl _) o)
theorem Pow.drew {w : World} (h : Pow w) : Pow w.drew := h.st (Below.refl _ _).drew

theorem Itoa_n (n : Int) (w : World) (h0 : 0 ≤ n) (h1 : n ≤ 9223372036854775807) (hp : Pow w) :
    Calls Tryz.prog 73 #[.int .i64 n] w fun e w' => e = .returned (.string (str (numS n))) ∧ Below w.heap.size w w' :=
  (Tryz.strconv_Itoa n (by omega) h1 w hp).mono fun e w' ⟨he, k, os, hw⟩ => ⟨he, hw ▸ Lib.below_grow _ w (Nat.le_refl _) k os⟩

theorem strInfo : (Tryz.prog.info? 9).map (fun i => (i.zero, i.size, i.bytes)) = some (some (.string ⟨#[]⟩), 1, 16) := by kernel_rfl
section
variable {ops : Array Oper} {rest : List Oper} {o : Oper} {a : Act} {Q : Exit → Act → World → Prop} {w : World}
theorem wp_make_strs (hgd : o.guard = none) (l k : Operand) (ho : o.op = Op.makeSlice 109 l k) (n : Nat) (hl : a.eval l = .int .i64 (n : Int)) (hk : a.eval k = .int .i64 (n : Int)) (hn : n ≤ 1099511627776)
    (h : ∀ w' cs, Bk w' w.heap.size 9 cs → cs.size = n → Below w.heap.size w w' → w'.heap.size = w.heap.size + 1 → wpList Tryz.prog ops Q rest (a.put o.dst (.slice (some ⟨w.heap.size, 0, none⟩) n n)) w') : wpList Tryz.prog ops Q (o :: rest) a w := by
  obtain ⟨i0, hi0, hz0, hz1, hz2⟩ := info_parts strInfo
  refine wpList_plain hgd fun K hK => ?_
  have hr := run_make (P := Tryz.prog) w _ _ i0 _ Tryz.underlying109 hi0 hz0 .i64 .i64 n n (by omega) (Int.le_refl _) (by rw [hz2]; omega) (by omega)
  simp only [Int.toNat_natCast, hz1] at hr
  unfold Oper.wp
  simp [execOp, ho, hl, hk, hr, Result.andThen]
  refine hK _ _ (h _ _ (Bk.new w _ _) ?_ ((Below.refl _ _).alloc (Nat.le_refl _) _) (by simp))
  rw [size_madeCells]; first | done | simp
end
set_option maxRecDepth 100000 in
set_option maxHeartbeats 2000000 in
theorem joinNumbers_any (l : List Int) (A : Option Addr) (c : Nat) (sep : List UInt8) {lo hi : Nat} (w : World) (hr0 : Rd w lo hi A l) (hl : l.length ≤ 1048576) (hb : ∀ n ∈ l, 0 ≤ n ∧ n ≤ 1000000000000000000) (hp : Pow w) (hs : sep.length ≤ 1) :
    Calls Tryz.prog 120 #[.slice A l.length c, .string (str sep)] w fun e w' => e = .returned (.string (str (joinS l sep))) ∧ Below w.heap.size w w' := by
  have hr := hr0.std
  have hbH := Lib.hid hb
  clear hr0 hb
  go_enter Tryz.func120, Tryz.ntmps120
  go_wp2_with (at_make; refine wp_make_strs rfl _ _ rfl l.length rfl rfl (by omega) ?_; intro w1 cs1 hk1 hc1 hb1 hs1)
  go_loopw [6, 7, 13] (fun _ _ i wr => ∃ (k : Nat) (cs : Array Value), k ≤ l.length ∧ i = .int .i64 k ∧ Bk wr w.heap.size 9 cs ∧ cs.size = l.length ∧ (∀ j (h : j < l.length), j < k → cs[j]? = some (.string (str (numS l[j])))) ∧ Below w.heap.size w wr) (fun _ _ i _ => l.length - (intOf i).toNat)
  case atStart => exact ⟨0, cs1, Nat.zero_le _, rfl, hk1, hc1, fun j _ h => absurd h (by omega), hb1⟩
  case round =>
    clear hk1 hb1 hc1 hs1
    obtain ⟨k, cs, hk, rfl, hkb, hcs, hall, hbr⟩ := hrel
    have hszr := hbr.size
    have hlw := hkb.lt
    by_cases hlt : k < l.length
    · obtain ⟨b0, off, rfl, _, _, hc⟩ := (hr.below hbr (Nat.le_refl _)) (by omega)
      have x0 := hc k hlt
      obtain ⟨hn0, hn1⟩ := hbH.out l[k] (List.getElem_mem hlt)
      have hpr := hp.st hbr
      have hallH := Lib.hid hall
      clear hc hall
      go_wp2_with fail
      (with_reducible refine (Itoa_n l[k] _ hn0 (by omega) hpr).mono ?_)
      rintro e w2 ⟨rfl, hb2⟩
      have hkb2 := hkb.st hb2
      have y0 : w2.cell? ⟨w.heap.size, k, none⟩ = some (cs[k]'(by omega)) := (hkb2.cell k).trans (Array.getElem?_eq_getElem (by omega))
      have f0 := hkb2.frozen k
      have hk3 := Lib.hid (hkb2.set_ k (.string (str (numS l[k]))))
      have hB3 := Lib.hid ((hbr.trans (hb2.mono hszr)).setCell (p := ⟨w.heap.size, k, none⟩) (Nat.le_refl _) (.string (str (numS l[k]))))
      have hall3 := Lib.hid (show ∀ j (h : j < l.length), j < k + 1 → (cs.setIfInBounds k (.string (str (numS l[k]))))[j]? = some (.string (str (numS l[j]))) from fun j hj hjk => by
        by_cases e : j = k
        · subst e; rw [Array.getElem?_setIfInBounds, if_pos rfl, if_pos (by omega)]
        · rw [Array.getElem?_setIfInBounds_ne (by omega)]; exact hallH.out j hj (by omega))
      clear hb2 hbr hkb hkb2 hpr
      go_wp2_with fail
      go_roundw
      case rel => exact ⟨k + 1, _, by omega, by go_num, hk3.out, by simpa using hcs, hall3.out, hB3.out⟩
      case measure => simp [intOf]; omega
    · obtain rfl : k = l.length := by omega
      by_cases hne : l = []
      · subst hne
        go_wp2_with fail
        (with_reducible refine (Tryz.strings_Join_none _ _ _ _).mono ?_)
        rintro e w2 ⟨rfl, rfl⟩
        go_wp2_with fail
        go_ret
        exact ⟨rfl, hbr⟩
      · have hpos : 0 < l.length := List.length_pos_iff.2 hne
        have hlenJ := joinS_len (l := l) (sep := sep) (fun n hn => by have := hbH.out n hn; omega) hs
        have hmap : (l.map fun n => str (numS n)).map (·.data.toList) = l.map numS := by
          rw [List.map_map]; exact List.map_congr_left fun n _ => str_toList _
        have hlm : (l.map fun n => str (numS n)).length = l.length := List.length_map _
        have hJ := Tryz.strings_Join w.heap.size 0 l.length (l.map fun n => str (numS n)) (str sep) wr (fun j x hj => by
          rw [List.getElem?_map] at hj
          obtain ⟨n, hn, rfl⟩ := Option.map_eq_some_iff.1 hj
          obtain ⟨hjl, rfl⟩ := List.getElem?_eq_some_iff.1 hn
          rw [Nat.zero_add, hkb.cell j]
          exact hall j hjl hjl) hlw (by rw [hlm]; omega) (Nat.le_of_eq hlm) (by rw [hmap, str_toList]; show (joinS l sep).length ≤ _; omega)
        rw [hlm, hmap, str_toList] at hJ
        clear hall hmap hlm hne
        go_wp2_with fail
        (with_reducible refine hJ.mono ?_)
        rintro e w2 ⟨rfl, hb2⟩
        have hB := Lib.hid (hbr.trans (hb2.mono hszr))
        clear hb2 hbr hkb hJ
        go_wp2_with fail
        go_ret
        exact ⟨rfl, hB.out⟩
end Go.Proofs.YtjhbffndiaggmaaGreatDoor
