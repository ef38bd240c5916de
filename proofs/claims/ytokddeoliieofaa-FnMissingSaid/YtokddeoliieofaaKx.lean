/-
  RegisterLate of the reference, as far as the draw wants it.
-/
import Derived.Test.YtokddeoliieofaaKw
namespace Go.Proofs.Ytokddeoliieofaa
open Go.RowKit

/-- some notes in a row of their own -/
def LaR (w : World) (e : Ending) (w' : World) : Prop :=
  ∃ g cap ok, ∃ xs : List (Int × ByteArray), e = .returned (.tuple #[.slice (some ⟨g, 0, none⟩) (List.length xs) cap, .bool ok]) ∧ OwnN w' g cap xs ∧ w.heap.size ≤ g ∧ List.length xs ≤ 33 ∧ Below w.heap.size w w'
/-- between two rounds -/
structure LaI (w wr : World) (b off : Nat) (ns : List (Int × ByteArray)) (g cap : Nat) (xs : List (Int × ByteArray)) : Prop where
  ow : OwnN wr g cap xs
  gz : w.heap.size ≤ g
  bl : Below w.heap.size w wr
theorem LaI.drew {w wr : World} {b off : Nat} {ns : List (Int × ByteArray)} {g cap : Nat} {xs : List (Int × ByteArray)} (h : LaI w wr b off ns g cap xs) : LaI w wr.drew b off ns g cap xs :=
  ⟨Own.below (B := wr.heap.size) h.ow (Below.refl _ _).drew (Own.lt h.ow), h.gz, h.bl.drew⟩
theorem LaI.push {w wr wa : World} {b off : Nat} {ns : List (Int × ByteArray)} {g cap g' c' : Nat} {xs : List (Int × ByteArray)} {z : Int × ByteArray} (h : LaI w wr b off ns g cap xs) (HA : Own wa g' c' (xs.length + 1) 2 61 (mvF (nM (xs ++ [z])) (nL (xs ++ [z])))) (hgr : wr.grownBy wa (some g)) (hd : (g' = g ∧ c' = cap) ∨ wr.heap.size ≤ g') :
    LaI w wa b off ns g' c' (xs ++ [z]) := by
  have hgz := h.gz
  have hbs := h.bl.size
  refine ⟨?_, ?_, h.bl.trans (below_of_grown hgr hgz hbs)⟩
  · unfold OwnN
    rw [List.length_append]
    exact HA
  · rcases hd with ⟨q, _⟩ | q <;> omega
/-- append of one element in a region that draws its order -/
theorem step_pushS {P : Program} {w : World} {t e : TypeId} {z : Value} {s bytes : Nat} (he : Elem P t e z s bytes) {ops : Array Oper} {o : Oper} {a : Act} {K : Act → World → Prop} {Q : Exit → Act → World → Prop} {E : Prop} (hgd : o.guard = none) (so xo : Operand)
    (ho : o.op = .call { callee := .builtin .append, args := #[so, xo], argTypes := #[t, t] }) {g cap n : Nat} {f : Nat → Value} (hown : Own w g cap n s e f) (hs : a.eval so = .slice (some ⟨g, 0, none⟩) n cap) (vs : List Value)
    (hx : a.eval xo = .slice (some ⟨w.heap.size, 0, none⟩) 1 1) (hnew : ∀ j, j < s → vs[j]? = some (f (n * s + j))) (h1 : ∀ j, j < s → (f (n * s + j)).oneCell' = true)
    (h63 : n + 1 ≤ maxLen) (hbytes : (n + 1) * bytes ≤ 140737488355328)
    (h : ∀ g' cap' w', Own w' g' cap' (n + 1) s e f → w.grownBy w' (some g) → ((g' = g ∧ cap' = cap) ∨ w.heap.size < g') → K (a.put o.dst (.slice (some ⟨g', 0, none⟩) (n + 1) cap')) w') : if Region.wanted o (yielded ops a.tmps) = true then Oper.wp P o a (w.alloc (.cells vs.toArray e)) K Q else E := by
  refine step_app he hgd so xo ho (hown.alloc _) hs ⟨w.heap.size, 0, none⟩ 1 1 hx (fun j hj => ?_) (fun j hj => h1 j (by omega)) h63 hbytes (fun g' cap' w' h2 h3 h4 => ?_)
  · rw [addr_add, Nat.zero_add]
    have hh : (w.alloc (.cells vs.toArray e)).heap[w.heap.size]? = some (.cells vs.toArray e (0, 0)) := heap_alloc_new _ _
    simp only [World.cell?, hh]
    simpa using hnew j (by omega)
  · refine h g' cap' w' h2 (grownBy_trans (World.grownBy_alloc w _ _) h3) ?_
    rcases h4 with h4 | h4
    · exact .inl h4
    · right
      have : (w.alloc (.cells vs.toArray e)).heap.size = w.heap.size + 1 := by simp
      omega
end Go.Proofs.Ytokddeoliieofaa
