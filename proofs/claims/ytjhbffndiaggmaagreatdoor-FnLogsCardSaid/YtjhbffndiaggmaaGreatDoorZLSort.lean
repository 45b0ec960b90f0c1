/-
  slices.Sort on a slice of integers that a call has made, by the library's contract. The conditions are bounds on lengths.
-/
import Derived.Test.YtjhbffndiaggmaaGreatDoorBL1
import Derived.Test.YtjhbffndiaggmaaGreatDoorBL2
import Derived.Test.YtjhbffndiaggmaaGreatDoorShelfS
import Derived.Sort.OwnSortedInts
import Derived.Shelf.Sort.Plain
namespace Go.Proofs.YtjhbffndiaggmaaGreatDoor
open Go.RowKit Go.ChangeShapes Go.WideShapes
set_option linter.unusedVariables false

theorem Sort_own (zs : List Int) (g c : Nat) {lo hi : Nat} (w : World) (hown : Own w lo hi (.slice (some ⟨g, 0, none⟩) zs.length c) zs) (hl : zs.length ≤ 1048576) :
    Calls Tryz.prog 91 #[.slice (some ⟨g, 0, none⟩) zs.length c] w fun e w' => e = .returned (.tuple #[]) ∧ Own w' lo hi (.slice (some ⟨g, 0, none⟩) zs.length c) (srtL zs) ∧ Fr lo hi w w' := by
  rcases hown.1.2 with ⟨h, _⟩ | ⟨g', cap, cur, he, hb, hg, hnc, hcm, hsz, htk⟩
  · cases h
  · injection he with e1 e2 e3
    have e4 : g' = g := (congrArg Addr.block (Option.some.inj e1)).symm
    subst e4 e3
    have hlt := hown.lt g' (by simp [Value.ownBlock])
    have htk' : cur.toList.take zs.length = zs.map (Value.int .i64) := by simpa using htk
    refine (Any.slices_Sort_int Tryz.lays189 g' 0 c zs w (Go.holds_of_blockI hg htk') hlt.2.2 (by omega)).mono fun e w' ⟨he, n, os, hw⟩ => ?_
    subst hw
    refine ⟨he, ⟨?_, fun k hk => hown.2 k hk⟩, Fr.grown (Go.grownBy_sortedI _) (fun k hk => by injection hk with hk; omega)⟩
    have := Go.ownsRow_sortedI (n := n) (os := os) (ts := srtL zs) (srt_len zs) hb hg hnc hcm hsz
    rw [srt_len]
    exact this
end Go.Proofs.YtjhbffndiaggmaaGreatDoor
