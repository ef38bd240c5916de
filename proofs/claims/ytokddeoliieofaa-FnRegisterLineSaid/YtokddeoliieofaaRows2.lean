/-
  What the proofs of the laws on a code share: opening a slice of bytes that came in.
-/
import Derived.Test.YtokddeoliieofaaRows
import Derived.Test.YtokddeoliieofaaRd
import Derived.ProofKit
import Derived.OpenShut
import Derived.JoinedCond
import Derived.Lib.SmallJoins
namespace Go.Proofs.Ytokddeoliieofaa
open Go.RowKit

theorem laidOut : laidOutB Try.prog = true := by kernel_rfl
theorem own : ownKnob Try.prog.godebug = none := by kernel_rfl
theorem cellsU8 : Try.prog.cellsOf 5 = 1 := by kernel_rfl

/-- a slice of bytes that came in -/
theorem open_BS {H : Type} {enc : TypeId × Value → H} {w : World} {base : Nat} {spare : Nat → Bool} {held : Bool} {fuel : Nat} {cs : List Value} {y : DataW H × List MemPlace}
    (h : DataW.trod enc Try.prog w base spare held fuel 22 cs = some y) (hw : ∀ b, spare b = true) : ∃ ao n c, cs = [.slice ao n c] ∧ BSl w ao n ∧ n ≤ c ∧ n ≤ 9223372036854775807 := by
  rcases Go.ChangeShapes.open_ints Try.underlying22 Try.underlying5 cellsU8 h with ⟨hcs, hx⟩ | ⟨a, len', cap', zs, hcs, _, hl, hm, hz, hx, hcell, hwz⟩
  · exact ⟨none, 0, 0, hcs, .inl rfl, Nat.le_refl _, by omega⟩
  · rw [if_pos (hw _)] at hz
    unfold maxLen at hm
    refine ⟨some a, len', cap', hcs, ?_, hl, by omega⟩
    by_cases h0 : len' = 0
    · exact .inl h0
    · obtain ⟨b, o, s⟩ := a
      have c0 := hcell 0 (by omega)
      have hs : s = none := by
        cases s with
        | none => rfl
        | some s =>
          exfalso
          revert c0
          simp only [World.cell?, Addr.add]
          split <;> simp
      subst hs
      refine .inr ⟨b, o, fun i => zs[i]?.getD 0, rfl, fun k hk => ⟨?_, range_u8 hwz k⟩⟩
      rw [← addr_add, hcell k (by omega), List.getD_eq_getElem?_getD]
end Go.Proofs.Ytokddeoliieofaa
