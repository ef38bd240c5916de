/-
  Walks of the helpers of the exact laws on single lines: copies, sizes, equality, marks.
-/
import Derived.Test.YtnhkijfibiffnaaA
namespace Go.Proofs.Ytnhkijfibiffnaa
open Go.RowKit

/-- what heldIntS answers -/
def heldV (f : Nat → Int) (n : Nat) (m : Int) : Int := if allB n (fun k => f k == m + k) = true then m + n else -1
theorem heldV_yes {f : Nat → Int} {n : Nat} {m : Int} (h : ∀ k, k < n → (f k == m + k) = true) : heldV f n m = m + n := if_pos (allB_of h)
theorem heldV_no {f : Nat → Int} {n k : Nat} {m : Int} (hk : k < n) (h : (f k == m + k) = false) : heldV f n m = -1 := if_neg (by rw [allB_not hk h]; simp)

/-- what a single line holds -/
structure Sg where
  A : Nat → Int
  na : Nat
  B : Nat → Int
  nb : Nat
  run : Int
  head : Int

/-- the value v is a single line that reads as x in w -/
def SgV (w : World) (v : Value) (x : Sg) : Prop :=
  ∃ ba oa ca bb ob cb, v = .agg #[.slice (some ⟨ba, oa, none⟩) x.na ca, .slice (some ⟨bb, ob, none⟩) x.nb cb, .int .i64 x.run, .int .i64 x.head] ∧ IC w ba oa x.na x.A ∧ IC w bb ob x.nb x.B
theorem SgV.keep {w w' : World} {v : Value} {x : Sg} (h : SgV w v x) (hb : Below w.heap.size w w') : SgV w' v x := by
  obtain ⟨ba, oa, ca, bb, ob, cb, e, h1, h2⟩ := h
  exact ⟨ba, oa, ca, bb, ob, cb, e, h1.keep hb, h2.keep hb⟩
/-- it lies in new memory from block base on, its two rows apart -/
def SgF (base : Nat) (w : World) (v : Value) (x : Sg) : Prop :=
  ∃ ga ca gb cb, v = .agg #[.slice (some ⟨ga, 0, none⟩) x.na ca, .slice (some ⟨gb, 0, none⟩) x.nb cb, .int .i64 x.run, .int .i64 x.head] ∧ base ≤ ga ∧ base ≤ gb ∧ ga ≠ gb ∧
    Own w ga ca x.na 1 3 (fun i => .int .i64 (x.A i)) ∧ Own w gb cb x.nb 1 3 (fun i => .int .i64 (x.B i))
theorem SgF.reads {base : Nat} {w : World} {v : Value} {x : Sg} (h : SgF base w v x) : SgV w v x := by
  obtain ⟨ga, ca, gb, cb, e, _, _, _, h1, h2⟩ := h
  exact ⟨ga, 0, ca, gb, 0, cb, e, IC.of_own h1, IC.of_own h2⟩
theorem SgF.keep {base : Nat} {w w' : World} {v : Value} {x : Sg} (h : SgF base w v x) (hb : Below w.heap.size w w') : SgF base w' v x := by
  obtain ⟨ga, ca, gb, cb, e, h3, h4, h5, h1, h2⟩ := h
  exact ⟨ga, ca, gb, cb, e, h3, h4, h5, h1.below hb h1.lt, h2.below hb h2.lt⟩

/-- what szSingle answers -/
def szSg (x : Sg) : Int := if x.na + x.nb ≤ 1048576 then 1048576 - x.na - x.nb else -1
/-- it reads as x; empty rows may be nil -/
def SgN (w : World) (v : Value) (x : Sg) : Prop := ∃ va vb, v = .agg #[va, vb, .int .i64 x.run, .int .i64 x.head] ∧ SL w va x.na x.A ∧ SL w vb x.nb x.B
theorem SgN.keep {w w' : World} {v : Value} {x : Sg} (h : SgN w v x) (hb : Below w.heap.size w w') : SgN w' v x := by
  obtain ⟨va, vb, e, h1, h2⟩ := h
  exact ⟨va, vb, e, h1.keep hb, h2.keep hb⟩
theorem SgV.n {w : World} {v : Value} {x : Sg} (h : SgV w v x) : SgN w v x := by
  obtain ⟨ba, oa, ca, bb, ob, cb, e, h1, h2⟩ := h
  exact ⟨_, _, e, .inl ⟨ba, oa, ca, rfl, h1⟩, .inl ⟨bb, ob, cb, rfl, h2⟩⟩

theorem below4 (w w1 : World) (a b c : Obj) {B : Nat} {p : Addr} {v : Value} (h : Below B (((w.alloc a).alloc b).alloc c) w1) (hp : w.heap.size ≤ p.block ∧ w.heap.size ≤ B) : Below w.heap.size w (w1.setCell p v) :=
  (((((Below.refl _ _).alloc (Nat.le_refl _) _).alloc (by simp) _).alloc (by simp; omega) _).trans (h.mono hp.2)).setCell hp.1 _

/-- what eqSingle answers -/
def eqSg (x y : Sg) : Bool := eqSl x.na y.na x.A y.A && (eqSl x.nb y.nb x.B y.B && ((x.run == y.run) && (x.head == y.head)))

theorem eqSg_refl (x : Sg) : eqSg x x = true := by simp [eqSg, eqSl_true]

end Go.Proofs.Ytnhkijfibiffnaa
