/-
  What the rows' proofs share: opening a single line that came in.
-/
import Derived.Test.YtokddeoliieofaaRows
import Derived.Test.YtokddeoliieofaaB
import Derived.ProofKit
import Derived.OpenShut
import Derived.JoinedCond
import Derived.Lib.SmallJoins
namespace Go.Proofs.Ytokddeoliieofaa
open Go.RowKit

theorem laidOut : laidOutB Try.prog = true := by kernel_rfl
theorem own : ownKnob Try.prog.godebug = none := by kernel_rfl
theorem cellsInt : Try.prog.cellsOf 3 = 1 := by kernel_rfl

/-- a slice of numbers that came in -/
theorem open_SL {H : Type} {enc : TypeId × Value → H} {w : World} {base : Nat} {spare : Nat → Bool} {held : Bool} {fuel : Nat} {v : Value} {y : DataW H × List MemPlace}
    (h : DataW.trod enc Try.prog w base spare held fuel 26 [v] = some y) (hw : ∀ b, spare b = true) : ∃ n f, SL w v n f ∧ n ≤ 9223372036854775807 := by
  rcases Go.ChangeShapes.open_ints Try.underlying26 Try.underlying3 cellsInt h with ⟨hcs, hx⟩ | ⟨a, len', cap', zs, hcs, _, hl, hm, hz, hx, hcell, hwz⟩
  · simp at hcs
    subst hcs
    exact ⟨0, fun _ => 0, SL.nil, by omega⟩
  · simp at hcs
    subst hcs
    rw [if_pos (hw _)] at hz
    unfold maxLen at hm
    by_cases h0 : len' = 0
    · subst h0
      exact ⟨0, fun _ => 0, .inr ⟨rfl, _, _, rfl⟩, by omega⟩
    · obtain ⟨b, o, s⟩ := a
      have c0 := hcell 0 (by omega)
      have hs : s = none := by
        cases s with
        | none => rfl
        | some s =>
          exfalso
          revert c0
          simp only [World.cell?, Addr.add]
          split <;> simp
      subst hs
      exact ⟨len', fun i => zs.getD i 0, .inl ⟨b, o, cap', rfl, fun k hk => by rw [← addr_add]; exact hcell k (by omega)⟩, by omega⟩
end Go.Proofs.Ytokddeoliieofaa
