/-
  What draws leave as it was: rows, boxes, readers. Over any draw.
-/
import Derived.Test.YtnhkijfibiffnaaSm
namespace Go.Proofs.Ytnhkijfibiffnaa
open Go.RowKit

theorem box_kept {w w' : World} {b R : Nat} {F : Nat → Option Value} (h : ∀ o, w.cell? ⟨b, o, none⟩ = F o) (hg : w.grownBy w' (some R)) (hb : b < w.heap.size) (hne : b ≠ R) : ∀ o, w'.cell? ⟨b, o, none⟩ = F o := fun o => by
  rw [← h o]
  exact World.cell?_of_block (w := w) (hg.block b hb (by simpa using hne))
theorem box_new (w : World) (cs : Array Value) (t : TypeId) : ∀ o, (w.alloc (.cells cs t)).cell? ⟨w.heap.size, o, none⟩ = cs[o]? := box_cells (Below.refl (w.heap.size + 1) _) (by omega)
theorem below_all (w : World) (a : Obj) : Below w.heap.size w (w.alloc a) := (Below.refl _ _).alloc (Nat.le_refl _) _
theorem RdL.alloc {w : World} {R m : Nat} (h : RdL w R m) (a : Obj) : RdL (w.alloc a) R m := h.keep (below_all _ _)
theorem RdL.alloc2 {w : World} {R m : Nat} (h : RdL w R m) (a b : Obj) : RdL ((w.alloc a).alloc b) R m := (h.alloc a).alloc b
theorem RdL.drew {w : World} {R m : Nat} (h : RdL w R m) : RdL w.drew R m := h
theorem RdL.drewN {w : World} {R m : Nat} (h : RdL w R m) (q : Nat) : RdL (w.drewN q) R m := h
theorem Own.picked {w w' : World} {g cap n s R : Nat} {t : TypeId} {f : Nat → Value} (h : Own w g cap n s t f) (hb : w.grownBy w' (some R)) (hg : g ≠ R) : Own w' g cap n s t f := h.kept hb (by simpa using hg)
theorem grow_new {w wa wb : World} {R g : Nat} (h : w.grownBy wa (some R)) (k : wa.grownBy wb (some g)) (hg : w.heap.size ≤ g) : w.grownBy wb (some R) :=
  ⟨k.os.trans h.os, k.tape.trans h.tape, k.output.trans h.output, Nat.le_trans h.size k.size, fun i hi hr => (k.block i (Nat.lt_of_lt_of_le hi h.size) (by simp; omega)).trans (h.block i hi hr)⟩
theorem grow_below {w wa wb : World} {R B : Nat} (h : w.grownBy wa (some R)) (k : Below B wa wb) (hB : w.heap.size ≤ B) : w.grownBy wb (some R) :=
  ⟨k.os.trans h.os, k.tape.trans h.tape, k.output.trans h.output, Nat.le_trans h.size k.size, fun i hi hr => (k.block i (by omega)).trans (h.block i hi hr)⟩
theorem gcell {W w1 : World} {R : Nat} (hg : W.grownBy w1 (some R)) : ∀ b o, b < W.heap.size → b ≠ R → w1.cell? ⟨b, o, none⟩ = W.cell? ⟨b, o, none⟩ := fun b o h hne => World.cell?_of_block (w := W) (hg.block b h (by simpa using hne))
theorem gfree {W w1 : World} {R : Nat} (hg : W.grownBy w1 (some R)) : ∀ b o, b < W.heap.size → b ≠ R → w1.frozen? ⟨b, o, none⟩ = W.frozen? ⟨b, o, none⟩ := fun b o h hne => by
  have := hg.block b h (by simpa using hne)
  simp only [World.frozen?, this]

theorem pickN_any (R m n : Nat) (w : World) (hn : 1 ≤ n ∧ n ≤ 1000000) (hm : m ≤ 1000000) (hr : RdL w R m) :
    Calls Try.prog 62 #[.pointer (some ⟨R, 0, none⟩), .int .i64 n] w fun e w' => ∃ k : Nat, e = .returned (.int .i64 k) ∧ k < n ∧ RdL w' R (m + 1) ∧ w.grownBy w' (some R) :=
  (pick_any R m n w (by omega) hm hr).mono fun e w' ⟨v, he, hv, h1, h2⟩ => by
    have := pkB_lt hv (by omega)
    exact ⟨v.toNat, by rw [he]; congr 2; omega, by omega, h1, h2⟩

theorem own_emptyAt {w : World} {g s : Nat} {t : TypeId} {f : Nat → Value} (h : g = w.heap.size) : Own (w.alloc (.cells #[] t)) g 0 0 s t f := by subst h; exact own_empty _ _ _ _
/-- block b is a box of type t that holds the cells cs -/
def Bx (w : World) (b : Nat) (t : TypeId) (cs : Array Value) : Prop := w.heap[b]? = some (.cells cs t (0, 0))
theorem Bx.lt {w : World} {b : Nat} {t : TypeId} {cs : Array Value} (h : Bx w b t cs) : b < w.heap.size := (Array.getElem?_eq_some_iff.1 h).1
theorem Bx.cell {w : World} {b : Nat} {t : TypeId} {cs : Array Value} (h : Bx w b t cs) : ∀ o, w.cell? ⟨b, o, none⟩ = cs[o]? := fun o => by
  unfold Bx at h
  simp only [World.cell?, h]
  rfl
theorem Bx.free {w : World} {b : Nat} {t : TypeId} {cs : Array Value} (h : Bx w b t cs) : ∀ o, w.frozen? ⟨b, o, none⟩ = false := fun o => by
  unfold Bx at h
  simp [World.frozen?, h]
theorem Bx.of_block {w w' : World} {b : Nat} {t : TypeId} {cs : Array Value} (h : Bx w b t cs) (e : w'.heap[b]? = w.heap[b]?) : Bx w' b t cs := e.trans h
theorem Bx.new (w : World) (t : TypeId) (cs : Array Value) : Bx (w.alloc (.cells cs t)) w.heap.size t cs := heap_alloc_new _ _
theorem Bx.newAt {w : World} {b : Nat} {t : TypeId} {cs : Array Value} (h : b = w.heap.size) : Bx (w.alloc (.cells cs t)) b t cs := by subst h; exact heap_alloc_new _ _
theorem Bx.alloc {w : World} {b : Nat} {t : TypeId} {cs : Array Value} (h : Bx w b t cs) (o : Obj) : Bx (w.alloc o) b t cs := h.of_block (Below.heap_alloc _ _ _ h.lt)
theorem Bx.drew {w : World} {b : Nat} {t : TypeId} {cs : Array Value} (h : Bx w b t cs) : Bx w.drew b t cs := h
theorem Bx.drewN {w : World} {b : Nat} {t : TypeId} {cs : Array Value} (h : Bx w b t cs) (q : Nat) : Bx (w.drewN q) b t cs := h
theorem Bx.kept {w w' : World} {b R : Nat} {t : TypeId} {cs : Array Value} (h : Bx w b t cs) (hb : w.grownBy w' (some R)) (hg : b ≠ R) : Bx w' b t cs := h.of_block (hb.block b h.lt (by simpa using hg))
theorem Bx.below {w w' : World} {b B : Nat} {t : TypeId} {cs : Array Value} (h : Bx w b t cs) (hb : Below B w w') (hg : b < B) : Bx w' b t cs := h.of_block (hb.block b hg)
theorem Bx.set {w : World} {b : Nat} {t : TypeId} {cs : Array Value} (h : Bx w b t cs) (o : Nat) (v : Value) : Bx (w.setCell ⟨b, o, none⟩ v) b t (cs.setIfInBounds o v) := by
  unfold Bx at *
  simp [World.setCell, Array.getElem?_modify, h]
theorem Bx.setOther {w : World} {b : Nat} {t : TypeId} {cs : Array Value} (h : Bx w b t cs) {a : Addr} (ha : b ≠ a.block) (v : Value) : Bx (w.setCell a v) b t cs := h.of_block (Below.heap_setCell _ _ _ _ ha)
theorem RdL.set {w : World} {R m g o : Nat} {v : Value} (h : RdL w R m) (hg : R < g) : RdL (w.setCell ⟨g, o, none⟩ v) R m := h.kept (grownBy_setCell _ _ _ _) hg
end Go.Proofs.Ytnhkijfibiffnaa
