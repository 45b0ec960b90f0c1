/-
  The reference's splitting of a text at a byte. The condition is a bound on the text's length.
-/
import Derived.Test.YtaoobcjannbnjaaDoorSRead
import Derived.Test.YtaoobcjannbnjaaDoorOwnR
namespace Go.Proofs.YtaoobcjannbnjaaDoor
open Go.RowKit Go.ChangeShapes Go.WideShapes
set_option linter.unusedVariables false
set_option linter.unusedSimpArgs false

/-- rows of a slice of texts -/
def strR (ps : List (List UInt8)) : List (List Value) := ps.map fun p => [.string (str p)]
theorem strR_snoc (ps : List (List UInt8)) (p : List UInt8) : strR (ps ++ [p]) = strR ps ++ [[.string (str p)]] := by simp [strR]
theorem str_extract (l : List UInt8) (f k : Nat) : (str l).extract f k = str ((l.take k).drop f) := by
  apply ByteArray.ext
  simp [str, List.drop_take]
theorem strInfo2 : (Tryd.prog.info? 9).map (fun i => (i.zero, i.size, i.bytes)) = some (some (.string ⟨#[]⟩), 1, 16) := by kernel_rfl
set_option maxRecDepth 100000 in
set_option maxHeartbeats 4000000 in
theorem l1Split_any (l : List UInt8) (b : UInt8) (w : World) (hl : l.length ≤ 1048577) :
    Calls Tryd.prog 61 #[.string (str l), .int .u8 b.toNat] w fun e w' => ∃ v, e = .returned v ∧ OwnR w' w.heap.size w'.heap.size 9 1 v (strR (splitL b l)) ∧ Below w.heap.size w w' := by
  have hszH := Lib.hid (str_size l)
  go_enter Tryd.func61, Tryd.ntmps61
  go_wp2_with fail
  go_loopw [5, 6, 7] (fun v fv i wr => ∃ (k f : Nat) (ps : List (List UInt8)), k ≤ l.length ∧ f ≤ k ∧ ps.length ≤ k ∧ i = .int .i64 k ∧ fv = .int .i64 f ∧ splitL b (l.take k) = ps ++ [(l.take k).drop f] ∧ OwnR wr w.heap.size wr.heap.size 9 1 v (strR ps) ∧ Below w.heap.size w wr) (fun _ _ i _ => l.length - (intOf i).toNat)
  case atStart => exact ⟨0, 0, [], Nat.zero_le _, Nat.le_refl _, Nat.le_refl _, rfl, rfl, rfl, OwnR.nil, Below.refl _ _⟩
  case round =>
    obtain ⟨k, f, ps, hk, hf, hpl, rfl, rfl, hs, hown, hbr⟩ := hrel
    obtain ⟨Av, cv, rfl, hvc, hvm, -, -⟩ := hown.cells
    have hszr := hbr.size
    obtain ⟨P, hP⟩ : ∃ P, P = (l.take k).drop f := ⟨_, rfl⟩
    have hrl : (strR ps).length ≤ 1048577 := by simp [strR]; omega
    have hO := hown.alloc (.cells #[.string (str P)] 9)
    have hO2 := hO.mono (Nat.le_refl _) (show wr.heap.size ≤ (wr.alloc (.cells #[.string (str P)] 9)).heap.size by simp)
    have hbk : Bk (wr.alloc (.cells #[.string (str P)] 9)) wr.heap.size 9 #[.string (str P)] := Bk.new wr _ _
    have hcell : ∀ i (hi : i < [[Value.string (str P)]].length) u, u < 1 → (wr.alloc (.cells #[.string (str P)] 9)).cell? ⟨wr.heap.size, i * 1 + u, none⟩ = ([[Value.string (str P)]][i])[u]? := fun i hi u hu => by
      obtain rfl : i = 0 := by simpa using hi
      rw [Nat.zero_mul, Nat.zero_add, hbk.cell u]
      simp
    have hB1 := hbr.alloc hszr (.cells #[.string (str P)] 9)
    have hOH := Lib.hid hO2
    have hcH := Lib.hid hcell
    have hBH := Lib.hid hB1
    have hownH := Lib.hid hown
    have hbrH := Lib.hid hbr
    have hlK : l.length ≤ (str l).size := by rw [hszH.out]; exact Nat.le_refl _
    clear hO hO2 hbk hcell hB1 hown hbr
    by_cases hlt : k < l.length
    · have hk2 : k < (str l).size := by rw [hszH.out]; exact hlt
      have hget : (str l)[k]'hk2 = l[k] := str_get l k hlt hk2
      have hex : (str l).extract f k = str P := by rw [str_extract, hP]
      by_cases hx : l[k] = b
      · have hst := Lib.hid (splitL_step_sep hlt hx hs)
        rw [← hP] at hst
        have hxx : ((l[k]).toNat : Int) = (b.toNat : Int) := by rw [hx]
        have hf2 : (f : Int) ≤ k := by omega
        have hk3 : (k : Int) ≤ (str l).size := by omega
        clear hs hP hx
        go_wp2_with (at_builtin; refine wp_append_rows rfl (.tmp 19) (.tmp 24) rfl Tryd.underlying62 strInfo2 rfl (by omega) rfl hOH.out (news := [[.string (str P)]]) (by rfl) hcH.out (by simp) (by simp [Value.oneCell']) (by simp; omega) (by omega) (by simp; omega) ?_; intro v5 w5 ho5 hg5 hb5 hat5)
        have hB5 := Lib.hid (hBH.out.trans hb5)
        have ho5H := Lib.hid (show OwnR w5 w.heap.size w5.heap.size 9 1 v5 (strR (ps ++ [P])) by rw [strR_snoc]; exact ho5)
        clear ho5 hg5 hb5 hat5
        go_roundw
        case rel => exact ⟨k + 1, k + 1, ps ++ [P], by omega, Nat.le_refl _, by simp; omega, by go_num, by go_num, hst.out, ho5H.out, hB5.out⟩
        case measure => simp [intOf]; omega
      · have hst := Lib.hid (splitL_step_byte hlt hx hf hs)
        have hxx : ¬ ((l[k]).toNat : Int) = (b.toNat : Int) := fun e => hx (UInt8.toNat_inj.1 (by omega))
        have hyy : (((l[k]).toNat : Int) == (b.toNat : Int)) = false := by simpa using hxx
        clear hs hP hx
        go_wp2_with fail
        go_roundw
        case rel => exact ⟨k + 1, f, ps, by omega, by omega, by omega, by go_num, rfl, hst.out, hownH.out, hbrH.out⟩
        case measure => simp [intOf]; omega
    · obtain rfl : k = l.length := by omega
      have hex : (str l).extract f (str l).size = str P := by rw [hszH.out, str_extract, hP]
      have hfin := Lib.hid (show splitL b l = ps ++ [P] by rw [List.take_length] at hs hP; rw [hs, hP])
      have hn : ¬ l.length < (str l).size := by rw [hszH.out]; omega
      have hf2 : (f : Int) ≤ (str l).size := by omega
      clear hs hP
      go_wp2_with (at_builtin; refine wp_append_rows rfl (.tmp 28) (.tmp 32) rfl Tryd.underlying62 strInfo2 rfl (by omega) rfl hOH.out (news := [[.string (str P)]]) (by rfl) hcH.out (by simp) (by simp [Value.oneCell']) (by simp; omega) (by omega) (by simp; omega) ?_; intro v5 w5 ho5 hg5 hb5 hat5)
      have hB5 := hBH.out.trans hb5
      have ho5' : OwnR w5 w.heap.size w5.heap.size 9 1 v5 (strR (splitL b l)) := by rw [hfin.out, strR_snoc]; exact ho5
      clear ho5 hg5 hb5 hat5
      go_ret
      exact ⟨_, rfl, ho5', hB5⟩
end Go.Proofs.YtaoobcjannbnjaaDoor
