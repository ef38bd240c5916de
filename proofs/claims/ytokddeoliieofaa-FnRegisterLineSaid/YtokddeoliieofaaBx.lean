/-
  Boxes: blocks of a call's own that are known whole.
-/
import Derived.Test.YtokddeoliieofaaBase
namespace Go.Proofs.Ytokddeoliieofaa
open Go.RowKit

/-- block b is a box of type t that holds the cells cs -/
def Bx (w : World) (b : Nat) (t : TypeId) (cs : Array Value) : Prop := w.heap[b]? = some (.cells cs t (0, 0))
theorem Bx.lt {w : World} {b : Nat} {t : TypeId} {cs : Array Value} (h : Bx w b t cs) : b < w.heap.size := (Array.getElem?_eq_some_iff.1 h).1
theorem Bx.cell {w : World} {b : Nat} {t : TypeId} {cs : Array Value} (h : Bx w b t cs) : ∀ o, w.cell? ⟨b, o, none⟩ = cs[o]? := fun o => by
  unfold Bx at h
  simp only [World.cell?, h]
  rfl
theorem Bx.free {w : World} {b : Nat} {t : TypeId} {cs : Array Value} (h : Bx w b t cs) : ∀ o, w.frozen? ⟨b, o, none⟩ = false := fun o => by
  unfold Bx at h
  simp [World.frozen?, h]
theorem Bx.of_block {w w' : World} {b : Nat} {t : TypeId} {cs : Array Value} (h : Bx w b t cs) (e : w'.heap[b]? = w.heap[b]?) : Bx w' b t cs := e.trans h
theorem Bx.new (w : World) (t : TypeId) (cs : Array Value) : Bx (w.alloc (.cells cs t)) w.heap.size t cs := heap_alloc_new _ _
theorem Bx.newAt {w : World} {b : Nat} {t : TypeId} {cs : Array Value} (h : b = w.heap.size) : Bx (w.alloc (.cells cs t)) b t cs := by subst h; exact heap_alloc_new _ _
theorem Bx.alloc {w : World} {b : Nat} {t : TypeId} {cs : Array Value} (h : Bx w b t cs) (o : Obj) : Bx (w.alloc o) b t cs := h.of_block (Below.heap_alloc _ _ _ h.lt)
theorem Bx.drew {w : World} {b : Nat} {t : TypeId} {cs : Array Value} (h : Bx w b t cs) : Bx w.drew b t cs := h
theorem Bx.drewN {w : World} {b : Nat} {t : TypeId} {cs : Array Value} (h : Bx w b t cs) (q : Nat) : Bx (w.drewN q) b t cs := h
theorem Bx.kept {w w' : World} {b R : Nat} {t : TypeId} {cs : Array Value} (h : Bx w b t cs) (hb : w.grownBy w' (some R)) (hg : b ≠ R) : Bx w' b t cs := h.of_block (hb.block b h.lt (by simpa using hg))
theorem Bx.below {w w' : World} {b B : Nat} {t : TypeId} {cs : Array Value} (h : Bx w b t cs) (hb : Below B w w') (hg : b < B) : Bx w' b t cs := h.of_block (hb.block b hg)
theorem Bx.set {w : World} {b : Nat} {t : TypeId} {cs : Array Value} (h : Bx w b t cs) (o : Nat) (v : Value) : Bx (w.setCell ⟨b, o, none⟩ v) b t (cs.setIfInBounds o v) := by
  unfold Bx at *
  simp [World.setCell, Array.getElem?_modify, h]
theorem Bx.setOther {w : World} {b : Nat} {t : TypeId} {cs : Array Value} (h : Bx w b t cs) {a : Addr} (ha : b ≠ a.block) (v : Value) : Bx (w.setCell a v) b t cs := h.of_block (Below.heap_setCell _ _ _ _ ha)
end Go.Proofs.Ytokddeoliieofaa
