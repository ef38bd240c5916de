/-
  What draws leave as it was: rows, boxes, readers. Over any draw.
-/
import Derived.Test.YtokddeoliieofaaSm
import Derived.Test.YtokddeoliieofaaBx
namespace Go.Proofs.Ytokddeoliieofaa
open Go.RowKit

theorem box_kept {w w' : World} {b R : Nat} {F : Nat → Option Value} (h : ∀ o, w.cell? ⟨b, o, none⟩ = F o) (hg : w.grownBy w' (some R)) (hb : b < w.heap.size) (hne : b ≠ R) : ∀ o, w'.cell? ⟨b, o, none⟩ = F o := fun o => by
  rw [← h o]
  exact World.cell?_of_block (w := w) (hg.block b hb (by simpa using hne))
theorem box_new (w : World) (cs : Array Value) (t : TypeId) : ∀ o, (w.alloc (.cells cs t)).cell? ⟨w.heap.size, o, none⟩ = cs[o]? := box_cells (Below.refl (w.heap.size + 1) _) (by omega)
theorem below_all (w : World) (a : Obj) : Below w.heap.size w (w.alloc a) := (Below.refl _ _).alloc (Nat.le_refl _) _
theorem RdL.alloc {w : World} {R m : Nat} (h : RdL w R m) (a : Obj) : RdL (w.alloc a) R m := h.keep (below_all _ _)
theorem RdL.alloc2 {w : World} {R m : Nat} (h : RdL w R m) (a b : Obj) : RdL ((w.alloc a).alloc b) R m := (h.alloc a).alloc b
theorem RdL.drew {w : World} {R m : Nat} (h : RdL w R m) : RdL w.drew R m := h
theorem RdL.drewN {w : World} {R m : Nat} (h : RdL w R m) (q : Nat) : RdL (w.drewN q) R m := h
theorem Own.picked {w w' : World} {g cap n s R : Nat} {t : TypeId} {f : Nat → Value} (h : Own w g cap n s t f) (hb : w.grownBy w' (some R)) (hg : g ≠ R) : Own w' g cap n s t f := h.kept hb (by simpa using hg)
theorem grow_new {w wa wb : World} {R g : Nat} (h : w.grownBy wa (some R)) (k : wa.grownBy wb (some g)) (hg : w.heap.size ≤ g) : w.grownBy wb (some R) :=
  ⟨k.os.trans h.os, k.tape.trans h.tape, k.output.trans h.output, Nat.le_trans h.size k.size, fun i hi hr => (k.block i (Nat.lt_of_lt_of_le hi h.size) (by simp; omega)).trans (h.block i hi hr)⟩
theorem grow_below {w wa wb : World} {R B : Nat} (h : w.grownBy wa (some R)) (k : Below B wa wb) (hB : w.heap.size ≤ B) : w.grownBy wb (some R) :=
  ⟨k.os.trans h.os, k.tape.trans h.tape, k.output.trans h.output, Nat.le_trans h.size k.size, fun i hi hr => (k.block i (by omega)).trans (h.block i hi hr)⟩
theorem gcell {W w1 : World} {R : Nat} (hg : W.grownBy w1 (some R)) : ∀ b o, b < W.heap.size → b ≠ R → w1.cell? ⟨b, o, none⟩ = W.cell? ⟨b, o, none⟩ := fun b o h hne => World.cell?_of_block (w := W) (hg.block b h (by simpa using hne))
theorem gfree {W w1 : World} {R : Nat} (hg : W.grownBy w1 (some R)) : ∀ b o, b < W.heap.size → b ≠ R → w1.frozen? ⟨b, o, none⟩ = W.frozen? ⟨b, o, none⟩ := fun b o h hne => by
  have := hg.block b h (by simpa using hne)
  simp only [World.frozen?, this]

theorem pickN_any (R m n : Nat) (w : World) (hn : 1 ≤ n ∧ n ≤ 1000000) (hm : m ≤ 1000000) (hr : RdL w R m) :
    Calls Try.prog 63 #[.pointer (some ⟨R, 0, none⟩), .int .i64 n] w fun e w' => ∃ k : Nat, e = .returned (.int .i64 k) ∧ k < n ∧ RdL w' R (m + 1) ∧ w.grownBy w' (some R) :=
  (pick_any R m n w (by omega) hm hr).mono fun e w' ⟨v, he, hv, h1, h2⟩ => by
    have := pkB_lt hv (by omega)
    exact ⟨v.toNat, by rw [he]; congr 2; omega, by omega, h1, h2⟩

theorem own_emptyAt {w : World} {g s : Nat} {t : TypeId} {f : Nat → Value} (h : g = w.heap.size) : Own (w.alloc (.cells #[] t)) g 0 0 s t f := by subst h; exact own_empty _ _ _ _
theorem RdL.set {w : World} {R m g o : Nat} {v : Value} (h : RdL w R m) (hg : R < g) : RdL (w.setCell ⟨g, o, none⟩ v) R m := h.kept (grownBy_setCell _ _ _ _) hg
end Go.Proofs.Ytokddeoliieofaa
