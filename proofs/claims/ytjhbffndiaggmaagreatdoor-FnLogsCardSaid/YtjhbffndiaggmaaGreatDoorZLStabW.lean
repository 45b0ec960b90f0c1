/-
  The library's stable sort at entries: its functions walked, from a world of the sort's to a world of the sort's. The conditions are index bounds.
-/
import Derived.Test.YtjhbffndiaggmaaGreatDoorBL4
import Derived.Test.YtjhbffndiaggmaaGreatDoorBL1
import Derived.Shelf.SlSortCmp.KitK
import Derived.Sort.WalkB2
import Derived.Sort.WalkB12
import Derived.Deep.LoopGhost
import Derived.IntWalk
namespace Go.Proofs.YtjhbffndiaggmaaGreatDoor
open Go.RowKit Go.ChangeShapes Go.WideShapes Go.Sort
set_option linter.unusedVariables false
set_option linter.unusedSimpArgs false

/-- an entry as it lies in a row, and where it stood -/
structure RowT where
  t : Int
  m : Int
  p : Int
  A1 : Option Addr
  n1 : Nat
  c1 : Nat
  A2 : Option Addr
  n2 : Nat
  c2 : Nat
  tag : Nat
deriving Inhabited
def encT (x : RowT) : List Value := [.int .i64 x.t, .int .i64 x.m, .int .i64 x.p, .slice x.A1 x.n1 x.c1, .slice x.A2 x.n2 x.c2]
theorem encT_len (x : RowT) : (encT x).length = 5 := rfl
theorem encT_one (x : RowT) : ∀ v ∈ encT x, v.oneCell' = true := by
  intro v hv
  simp [encT] at hv
  rcases hv with rfl | rfl | rfl | rfl | rfl <;> rfl
def ltT (x y : RowT) : Bool := decide (x.t < y.t)
theorem ltT_swo : SWO ltT := ⟨fun x => by simp [ltT], fun x y z h1 h2 => by simp [ltT] at *; omega, fun x y z h1 h2 => by simp [ltT] at *; omega⟩
/-- what the walks lean on of the program, the size of an entry a letter -/
structure SortP (P : Program) (k : Nat) : Prop where
  mixed : P.follows .mixedOrders = true
  aE : ∀ w, (isAgg 74).run P w = .ok true w
  zE : ∀ w, (Go.sizeOf 74).run P w = .ok k w
  tI : P.underlying 3 = some (TypeDesc.int IntKind.i64)
  aI : ∀ w, (isAgg 3).run P w = .ok false w
  zI : ∀ w, (Go.sizeOf 3).run P w = .ok 1 w
  tB : P.underlying 4 = some (TypeDesc.bool)
  aB : ∀ w, (isAgg 4).run P w = .ok false w
  zB : ∀ w, (Go.sizeOf 4).run P w = .ok 1 w
  tS : P.underlying 65 = some (TypeDesc.slice 74)
  aS : ∀ w, (isAgg 65).run P w = .ok false w
  zS : ∀ w, (Go.sizeOf 65).run P w = .ok 1 w
  tF : P.underlying 143 = some (TypeDesc.func #[74, 74] #[3] false)
  aF : ∀ w, (isAgg 143).run P w = .ok false w
  zF : ∀ w, (Go.sizeOf 143).run P w = .ok 1 w
  tU : P.underlying 149 = some (TypeDesc.int IntKind.u64)
  aU : ∀ w, (isAgg 149).run P w = .ok false w
  zU : ∀ w, (Go.sizeOf 149).run P w = .ok 1 w
theorem sortP : SortP Tryz.prog 5 := ⟨by kernel_rfl, fun w => by simp [go_sem], fun w => by simp [go_sem], by kernel_rfl, fun w => by simp [go_sem], fun w => by simp [go_sem], by kernel_rfl, fun w => by simp [go_sem], fun w => by simp [go_sem], by kernel_rfl, fun w => by simp [go_sem], fun w => by simp [go_sem], by kernel_rfl, fun w => by simp [go_sem], fun w => by simp [go_sem], by kernel_rfl, fun w => by simp [go_sem], fun w => by simp [go_sem]⟩
set_option maxRecDepth 1000000 in
set_option maxHeartbeats 8000000 in
theorem swapRange_P {P : Program} {kE : Nat} (L : SortP P kE) (FG : P.funcs[236]? = some Tryz.f236) (enc : RowT → List Value) (blk off cap x y n : Nat) (d0 d : Array RowT) (w0 w : World) (fv : Value) (R : RowK enc kE w0 blk off d0) (hs : d.size = d0.size) (S : SWK enc kE w0 blk off d w) (hxy : x + n ≤ y) (hy : y + n ≤ d.size) (hsz : d.size ≤ 1099511627776) :
    Calls P 236 #[.slice (some ⟨blk, off, none⟩) d.size cap, .int .i64 x, .int .i64 y, .int .i64 n, fv] w fun e w' => e = .returned (.tuple #[]) ∧ ∃ d', SwR x y n d d' ∧ (∀ a b, a ≤ x → y + n ≤ b → b ≤ d.size → PermIn a b d d') ∧ SWK enc kE w0 blk off d' w' := by
  have mixed := L.mixed
  have aE := L.aE
  have zE := L.zE
  have tI := L.tI
  have aI := L.aI
  have zI := L.zI
  have tB := L.tB
  have aB := L.aB
  have zB := L.zB
  have tS := L.tS
  have aS := L.aS
  have zS := L.zS
  have tF := L.tF
  have aF := L.aF
  have zF := L.zF
  have tU := L.tU
  have aU := L.aU
  have zU := L.zU
  have S0 : Hid (SWK enc kE w0 blk off d w) := S
  have hs1 : d.size ≤ d0.size := by omega
  have hs2 : d0.size ≤ d.size := by omega
  clear S hs
  go_enter FG, Tryz.ntmps236
  go_wp2_with fail
  go_loopw [10] (fun i wr => ∃ (k : Nat) (dk : Array RowT), k ≤ n ∧ i = .int .i64 (k : Int) ∧ Hid (SwR x y k d dk) ∧ Hid (∀ a b, a ≤ x → y + n ≤ b → b ≤ d.size → PermIn a b d dk) ∧ Hid (SWK enc kE w0 blk off dk wr)) (fun i _ => n - (intOf i).toNat)
  case atStart => exact ⟨0, d, Nat.zero_le _, rfl, Lib.hid (SwR.zero x y d), Lib.hid (fun a b _ _ _ => permIn_refl d a b), S0⟩
  case round =>
    clear S0
    obtain ⟨k, dk, hk, rfl, hW, hP, hS⟩ := hrel
    by_cases hlt : k < n
    · have hlt2 : (k : Int) < (n : Int) := by omega
      have hdk : dk.size = d.size := hW.out.size
      have hix : x + k < dk.size := by omega
      have hiy : y + k < dk.size := by omega
      have hdkH := Lib.hid hdk
      have S2 : Hid (SWK enc kE w0 blk off (swp dk (x + k) (y + k)) ((wr.drew.setCells blk (off + (x + k) * kE) (enc dk[y + k]!)).setCells blk (off + (y + k) * kE) (enc dk[x + k]!))) := hS.out.swapped R (x + k) (y + k) hix hiy
      have l44a := hS.out.ld1 R (by omega) P (x + k) hix
      have l44b := hS.out.ld1 R (by omega) P (y + k) hiy
      have s44a := hS.out.st1 R (by omega) P (x + k) hix dk[y + k]!
      have s44b := hS.out.st2 R (by omega) P (x + k) (y + k) hix hiy dk[y + k]! dk[x + k]!
      have n44a : (enc dk[x + k]!).length = kE := R.hk _
      have n44b : (enc dk[y + k]!).length = kE := R.hk _
      generalize enc dk[x + k]! = cI44 at S2 l44a s44b n44a
      generalize enc dk[y + k]! = cJ44 at S2 l44b s44a s44b n44b
      have i0 : (0 : Int) ≤ (x : Int) + (k : Int) := by omega
      have i1 : (x : Int) + (k : Int) < (d.size : Int) := by omega
      have i2 : ((x : Int) + (k : Int)).toNat = x + k := by omega
      have j0 : (0 : Int) ≤ (y : Int) + (k : Int) := by omega
      have j1 : (y : Int) + (k : Int) < (d.size : Int) := by omega
      have j2 : ((y : Int) + (k : Int)).toNat = y + k := by omega
      have i3 : IntKind.i64.wrap ((x : Int) + (k : Int)) = (x : Int) + (k : Int) := IntWalk.i64_in _ (by omega)
      have j3 : IntKind.i64.wrap ((y : Int) + (k : Int)) = (y : Int) + (k : Int) := IntWalk.i64_in _ (by omega)
      clear hdk hS
      go_wp2_with fail
      go_big_region_o
      clear l44a l44b s44a s44b
      generalize (wr.drew.setCells blk (off + (x + k) * kE) cJ44).setCells blk (off + (y + k) * kE) cI44 = w2 at S2 ⊢
      clear i3 j3
      go_wp2_with fail
      go_roundw
      case rel => exact ⟨k + 1, swp dk (x + k) (y + k), by omega, by go_num, Lib.hid (hW.out.succ (by omega) (by omega)), Lib.hid (fun a b ha hb hd => permIn_trans _ _ _ _ _ (hP.out a b ha hb hd) (swp_permIn dk a b (x + k) (y + k) (by omega) (by omega) (by omega) (by omega) (by have := hdkH.out; omega))), S2⟩
      case measure => simp [intOf]; omega
    · obtain rfl : k = n := by omega
      have hlt2 : ¬ ((k : Int) < (k : Int)) := by omega
      go_wp2_with fail
      go_end0
      exact ⟨rfl, dk, hW.out, hP.out, hS.out⟩
theorem swapRange_Z {P : Program} {kE : Nat} (L : SortP P kE) (FG : P.funcs[236]? = some Tryz.f236) (enc : RowT → List Value) (blk off cap x y n sz : Nat) (xz yz nz : Int) (d0 d : Array RowT) (w0 w : World) (fv : Value) (R : RowK enc kE w0 blk off d0) (hz : sz = d.size) (hxz : xz = (x : Int)) (hyz : yz = (y : Int)) (hnz : nz = (n : Int)) (hs : d.size = d0.size) (S : SWK enc kE w0 blk off d w) (hxy : x + n ≤ y) (hy : y + n ≤ d.size) (hsz : d.size ≤ 1099511627776) :
    Calls P 236 #[.slice (some ⟨blk, off, none⟩) sz cap, .int .i64 xz, .int .i64 yz, .int .i64 nz, fv] w fun e w' => e = .returned (.tuple #[]) ∧ ∃ d', SwR x y n d d' ∧ (∀ a b, a ≤ x → y + n ≤ b → b ≤ d.size → PermIn a b d d') ∧ SWK enc kE w0 blk off d' w' := by
  subst hz hxz hyz hnz
  exact swapRange_P L FG enc blk off cap x y n d0 d w0 w fv R hs S hxy hy hsz
set_option maxRecDepth 1000000 in
set_option maxHeartbeats 8000000 in
theorem rotate_P {P : Program} {kE : Nat} (L : SortP P kE) (FS : P.funcs[236]? = some Tryz.f236) (FG : P.funcs[223]? = some Tryz.f223) (enc : RowT → List Value) (blk off cap a m b sz : Nat) (d0 d : Array RowT) (w0 w : World) (fv : Value) (R : RowK enc kE w0 blk off d0) (hz : sz = d.size) (hs : d.size = d0.size) (S : SWK enc kE w0 blk off d w) (ham : a < m) (hmb : m < b) (hb : b ≤ d.size) (hsz : d.size ≤ 1099511627776) :
    Calls P 223 #[.slice (some ⟨blk, off, none⟩) sz cap, .int .i64 a, .int .i64 m, .int .i64 b, fv] w fun e w' => e = .returned (.tuple #[]) ∧ ∃ d', Rot a m b d d' ∧ PermIn a b d d' ∧ SWK enc kE w0 blk off d' w' := by
  have mixed := L.mixed
  have aE := L.aE
  have zE := L.zE
  have tI := L.tI
  have aI := L.aI
  have zI := L.zI
  have tB := L.tB
  have aB := L.aB
  have zB := L.zB
  have tS := L.tS
  have aS := L.aS
  have zS := L.zS
  have tF := L.tF
  have aF := L.aF
  have zF := L.zF
  have tU := L.tU
  have aU := L.aU
  have zU := L.zU
  have eS : ∀ args w, (callFunc 236 args).run P w = .ok (.enter 236 args) w := enters_of FS rfl rfl
  have S0 : Hid (SWK enc kE w0 blk off d w) := S
  have hzH := Lib.hid hz
  have hsH := Lib.hid hs
  have hsd : d.size ≤ 1099511627776 := hsz
  clear S hs hz
  go_enter FG, Tryz.ntmps223
  go_wp2_with fail
  go_loopw [10, 11] (fun s t wr => ∃ (i j : Nat) (dk : Array RowT), s = .int .i64 (i : Int) ∧ t = .int .i64 (j : Int) ∧ (1 ≤ i ∧ 1 ≤ j ∧ i ≤ m - a ∧ j ≤ b - m) ∧ Hid (dk.size = d.size) ∧ Hid (∀ d', Rot (m - i) m (m + j) dk d' → Rot a m b d d') ∧ Hid (PermIn a b d dk) ∧ Hid (SWK enc kE w0 blk off dk wr)) (fun s t _ => (intOf s).toNat + (intOf t).toNat)
  case atStart => exact ⟨m - a, b - m, d, by congr 1; omega, by congr 1; omega, ⟨by omega, by omega, Nat.le_refl _, Nat.le_refl _⟩, Lib.hid rfl, Lib.hid (fun d' h => by rwa [show m - (m - a) = a by omega, show m + (b - m) = b by omega] at h), Lib.hid (permIn_refl d a b), S0⟩
  case round =>
    clear S0
    obtain ⟨i, j, dk, rfl, rfl, ⟨hi1, hj1, hia, hjb⟩, hdk, hR, hP, hS⟩ := hrel
    have hmi : i ≤ m := by omega
    by_cases hij : i = j
    · subst hij
      have t1 : ((i : Int) != (i : Int)) = false := by simp
      go_wp2_with fail
      (with_reducible refine (swapRange_Z L FS enc blk off cap (m - i) m i sz _ _ _ d0 dk w0 _ fv R (by have h1 := hdk.out; have h2 := hzH.out; omega) (by omega) rfl rfl (by have h1 := hdk.out; have h2 := hsH.out; omega) hS.out (by omega) (by have h1 := hdk.out; omega) (by have h1 := hdk.out; omega)).mono ?_)
      rintro e w1 ⟨rfl, d1, h1, h2, h3⟩
      have hall := Lib.hid (And.intro (hR.out d1 (Rot.same h1 hmi)) (And.intro (permIn_trans _ _ _ _ _ hP.out (h2 a b (by omega) (by omega) (by have h1 := hdk.out; omega))) h3))
      clear h1 h2 h3
      go_wp2_with fail
      go_end0
      exact ⟨rfl, d1, hall.out⟩
    · have t1 : ((i : Int) != (j : Int)) = true := by simp; omega
      by_cases hgt : j < i
      · have hgt2 : (j : Int) < (i : Int) := by omega
        go_wp2_with fail
        (with_reducible refine (swapRange_Z L FS enc blk off cap (m - i) m j sz _ _ _ d0 dk w0 _ fv R (by have h1 := hdk.out; have h2 := hzH.out; omega) (by omega) rfl rfl (by have h1 := hdk.out; have h2 := hsH.out; omega) hS.out (by omega) (by have h1 := hdk.out; omega) (by have h1 := hdk.out; omega)).mono ?_)
        rintro e w1 ⟨rfl, d1, h1, h2, h3⟩
        have hall := Lib.hid (And.intro (show ∀ d', Rot (m - (i - j)) m (m + j) d1 d' → Rot a m b d d' from fun d' h => hR.out d' (Rot.big h1 (by rwa [show m - (i - j) = m - i + j by omega] at h) hgt hmi)) (And.intro (permIn_trans _ _ _ _ _ hP.out (h2 a b (by omega) (by omega) (by have h1 := hdk.out; omega))) h3))
        have hd1 := Lib.hid (h1.size.trans hdk.out)
        clear h1 h2 h3
        go_wp2_with fail
        go_roundw
        case rel => exact ⟨i - j, j, d1, by congr 1; omega, rfl, ⟨by omega, by omega, by omega, by omega⟩, hd1, Lib.hid hall.out.1, Lib.hid hall.out.2.1, Lib.hid hall.out.2.2⟩
        case measure => simp [intOf]; omega
      · have hgt2 : ¬ ((j : Int) < (i : Int)) := by omega
        go_wp2_with fail
        (with_reducible refine (swapRange_Z L FS enc blk off cap (m - i) (m + j - i) i sz _ _ _ d0 dk w0 _ fv R (by have h1 := hdk.out; have h2 := hzH.out; omega) (by omega) (by omega) rfl (by have h1 := hdk.out; have h2 := hsH.out; omega) hS.out (by omega) (by have h1 := hdk.out; omega) (by have h1 := hdk.out; omega)).mono ?_)
        rintro e w1 ⟨rfl, d1, h1, h2, h3⟩
        have hall := Lib.hid (And.intro (show ∀ d', Rot (m - i) m (m + (j - i)) d1 d' → Rot a m b d d' from fun d' h => hR.out d' (Rot.small h1 (by rwa [show m + (j - i) = m + j - i by omega] at h) (by omega) hmi)) (And.intro (permIn_trans _ _ _ _ _ hP.out (h2 a b (by omega) (by omega) (by have h1 := hdk.out; omega))) h3))
        have hd1 := Lib.hid (h1.size.trans hdk.out)
        clear h1 h2 h3
        go_wp2_with fail
        go_roundw
        case rel => exact ⟨i, j - i, d1, rfl, by congr 1; omega, ⟨by omega, by omega, by omega, by omega⟩, hd1, Lib.hid hall.out.1, Lib.hid hall.out.2.1, Lib.hid hall.out.2.2⟩
        case measure => simp [intOf]; omega
end Go.Proofs.YtjhbffndiaggmaaGreatDoor
