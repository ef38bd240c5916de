/-
  What the rows' proofs share: opening a row of notes that came in.
-/
import Derived.Test.YtokddeoliieofaaRows1
import Derived.Test.YtokddeoliieofaaKn
import Derived.Deep.SlicePairs
import Derived.Deep.Slices
namespace Go.Proofs.Ytokddeoliieofaa
open Go.RowKit Go.ChangeShapes Go.WideShapes

theorem cellsStr : Try.prog.cellsOf 9 = 1 := by kernel_rfl
theorem add_nought (x : Addr) : x.add 0 = x := by unfold Addr.add; simp
theorem len2 {α : Type} {l : List α} (h : l.length = 2) : ∃ a b, l = [a, b] := by
  match l, h with
  | [a, b], _ => exact ⟨a, b, rfl⟩
theorem addr_plain {w : World} {a : Addr} {v : Value} (h : w.cell? (a.add 0) = some v) : ∃ b o, a = ⟨b, o, none⟩ := by
  obtain ⟨b, o, s⟩ := a
  cases s with
  | none => exact ⟨b, o, rfl⟩
  | some s =>
    exfalso
    revert h
    simp only [World.cell?, Addr.add]
    split <;> simp
set_option maxRecDepth 100000 in
/-- a slice of notes that came in -/
theorem open_ML {H : Type} {enc : TypeId × Value → H} {w : World} {base : Nat} {spare : Nat → Bool} {held : Bool} {fuel : Nat} {v : Value} {y : DataW H × List MemPlace}
    (h : DataW.trod enc Try.prog w base spare held fuel 33 [v] = some y) (hw : ∀ b, spare b = true) : ∃ q M L, MLs w v q M L ∧ q ≤ 9223372036854775807 ∧ ∀ k, k < q → (L k).size ≤ 9223372036854775807 := by
  rcases Go.Deep.open_slice Try.underlying33 h with ⟨hcs, hx⟩ | ⟨a, len, cap, m, fl, D, Pl, hcs, hb, hl, hm, hmm, hx, hel⟩
  · simp at hcs
    subst hcs
    exact ⟨0, fun _ => 0, fun _ => ⟨#[]⟩, .inr ⟨rfl, _, _, rfl⟩, by omega, fun k hk => by omega⟩
  · simp at hcs
    subst hcs
    rw [if_pos (hw _)] at hmm
    unfold maxLen at hm
    by_cases h0 : len = 0
    · subst h0
      exact ⟨0, fun _ => 0, fun _ => ⟨#[]⟩, .inr ⟨rfl, _, _, rfl⟩, by omega, fun k hk => by omega⟩
    · have each : ∀ i, i < len → ∃ q : Int × Option ByteArray, w.cell? (a.add (i * 2)) = some (.int .i64 q.1) ∧ w.cell? ((a.add (i * 2)).add 1) = some (.string (q.2.getD ⟨#[]⟩)) ∧ (q.2.getD ⟨#[]⟩).size ≤ 9223372036854775807 := by
        intro i hi
        obtain ⟨cs', h1, h2⟩ := hel i (by omega)
        rw [show Try.prog.cellsOf 97 = 2 from by kernel_rfl] at h1
        obtain ⟨_, hlen, hcell⟩ := World.cells?_some h1
        obtain ⟨xs, k, hk, hxy, _, hxl, hf⟩ := DataW.trod_struct Try.underlying97 h2
        obtain ⟨v0, v1, rfl⟩ := len2 hlen
        obtain ⟨y0, y1, rfl⟩ := len2 (hxl.trans rfl)
        focus
          have g0 := hf 0 _ rfl
          have g1 := hf 1 _ rfl
          simp [cellsInt, cellsStr] at g0 g1
          obtain ⟨n0, e0, _, _⟩ := DataW.trod_int Try.underlying3 g0
          obtain ⟨s1, e1, _, hs⟩ := DataW.trod_string Try.underlying9 g1
          simp at e0 e1
          subst e0 e1
          have c0 := hcell 0 (by omega)
          have c1 := hcell 1 (by omega)
          refine ⟨(n0, some s1), ?_, by simpa using c1, by unfold maxLen at hs; exact hs⟩
          have ha : (a.add (i * 2)).add 0 = a.add (i * 2) := add_nought _
          rw [ha] at c0
          simpa using c0
      obtain ⟨q, hq⟩ := Go.Deep.choose_lt each
      obtain ⟨b, o, rfl⟩ := addr_plain (by simpa using (hq 0 (by omega)).1)
      exact ⟨len, fun i => (q i).1, fun i => (q i).2.getD ⟨#[]⟩, .inl ⟨b, o, cap, rfl, fun k hk => by
        have := hq k hk
        rw [addr_add, addr_add] at this
        exact ⟨this.1, this.2.1⟩⟩, by omega, fun k hk => (hq k hk).2.2⟩
end Go.Proofs.Ytokddeoliieofaa
