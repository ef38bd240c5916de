/-
  Walks of the reference on lines: LineValid, l4At.
  A copy of a line in the making: two rows and a box, in whatever order they are made.
  Walks of the reference on lines: l4At, l4Step.
  The walk of the reference's LineRun.
  Walks of the helpers of the exact laws on lines: copies.
  Walks of the helpers of the exact laws on lines: a line's copy, sizes, equality.
  Walks of the helpers of the exact laws on lines: equality.
  Walks of the helpers of the exact laws on lines: marks.
  Walks of the helpers of the exact laws on lines: marks of moves and of lines.
  Walks of the helpers of the exact laws on lines: marks of lines; boxed lines.
  The walk of the exact law of LineRun.
  The iterator over all moves of a railway that can be done.
  slices.AppendSeq and slices.Collect over the iterator of moves.
  slices.Collect over the iterator of moves; the program's LineMoves.
  The walk of the reference's LineMoves.
  The two lists of moves are one: plain laws.
  Walks of the helpers of the exact laws on lines: held marks of moves; rows of moves that may be nil.
  Plain laws on lines: a move keeps a line valid; what it does to the moves that are left.
  Plain laws on lines: a move keeps a line valid; some move leaves fewer moves while any are left.
  Plain laws on lines: while moves are left, some move that can be done leaves fewer.
  A region that draws its order, in a round of a range over a function: walked as anywhere. Over any program.
  nextNearer: the railway behind the first move that leaves fewer moves.
  The program's LineFinish.
  The walks of the reference's l4Left and LineLeft.
  The walk of the reference's LineFinish.
-/
import Derived.Test.YtokddeoliieofaaXa
import Derived.Test.YtokddeoliieofaaKn
import Derived.Deep.DeepCutAuto
import Derived.Test.YtokddeoliieofaaB
import Derived.Lib.SlBytesRow
import Derived.RangeFuncNested
import Derived.RangeFuncBound
import Derived.RangeFuncCalls
import Derived.RangeFuncLeaves
import Derived.RangeFuncBox
import Derived.Shelf.Abstract
import Derived.OwnWalkIn
import Derived.TacticsInMore
import Derived.LoopNIn
import Derived.LoopIn
import Derived.Maps.AppendAt
import Derived.OrdersIn
import Derived.OrdersHeld
import Derived.Deep.RegionHeld
import Derived.Shelf.RegionOpen
namespace Go.Proofs.Ytokddeoliieofaa
open Go.RowKit

/-- the boxes of the reference's LineValid -/
structure VdM (w wr : World) (v1 v2 : Value) : Prop where
  box : Bx wr w.heap.size 75 #[v1, v2]
  bl : Below w.heap.size w wr
theorem VdM.below {w wr w' : World} {v1 v2 : Value} {D : Nat} (h : VdM w wr v1 v2) (hb : Below D wr w') (hD : D = wr.heap.size) : VdM w w' v1 v2 := by
  subst hD
  exact ⟨h.box.below hb h.box.lt, h.bl.trans (hb.mono h.bl.size)⟩
theorem BkC.keep {w w' : World} {b off n : Nat} {N : Nat → Int} {I O : Nat → Bool} (h : BkC w b off n N I O) (hb : Below w.heap.size w w') : BkC w' b off n N I O := fun k hk => by
  obtain ⟨h0, h1, h2⟩ := h k hk
  have hlt : b < w.heap.size := World.block_lt_of_cell? w ⟨b, off + k * 3, none⟩ h0
  exact ⟨by rw [hb.cell (p := ⟨b, off + k * 3, none⟩) hlt]; exact h0, by rw [hb.cell (p := ⟨b, off + k * 3 + 1, none⟩) hlt]; exact h1, by rw [hb.cell (p := ⟨b, off + k * 3 + 2, none⟩) hlt]; exact h2⟩
end Go.Proofs.Ytokddeoliieofaa
namespace Go.Proofs.Ytokddeoliieofaa
open Go.RowKit

/-- a copy of a line in new memory, in a box of its own -/
def CpC (w : World) (z : Nat) (x : Ln) (s8 : Value) (wx : World) : Prop :=
  ∃ b8 g1 c1 g2 c2, s8 = .pointer (some ⟨b8, 0, none⟩) ∧ Bx wx b8 75 #[.slice (some ⟨g1, 0, none⟩) x.n c1, .slice (some ⟨g2, 0, none⟩) x.m c2] ∧ Own wx g1 c1 x.n 3 46 (bkF x.N x.I x.O) ∧ Own wx g2 c2 x.m 1 3 (fun i => .int .i64 (x.T i)) ∧
    z ≤ b8 ∧ z ≤ g1 ∧ z ≤ g2 ∧ b8 ≠ g1 ∧ b8 ≠ g2 ∧ g1 ≠ g2 ∧ Below z w wx
theorem CpC.bl {wb wx : World} {z : Nat} {x : Ln} {s : Value} (h : CpC wb z x s wx) : Below z wb wx := by
  obtain ⟨_, _, _, _, _, _, _, _, _, _, _, _, _, _, _, hb⟩ := h
  exact hb
theorem cpS {wc w' : World} {A : Nat} {v1 v2 : Value} (h0 : wc.cell? ⟨A, 0, none⟩ = some v1) (h1 : wc.cell? ⟨A, 1, none⟩ = some v2) (hA : A < wc.heap.size) (hb : Below wc.heap.size wc w') :
    w'.cell? ⟨A, 0, none⟩ = some v1 ∧ w'.cell? ⟨A, 1, none⟩ = some v2 :=
  ⟨by rw [hb.cell (p := ⟨A, 0, none⟩) hA]; exact h0, by rw [hb.cell (p := ⟨A, 1, none⟩) hA]; exact h1⟩
theorem bx2 {w : World} {b : Nat} {t : TypeId} {v0 v1 : Value} (h : Bx w b t #[v0, v1]) (u0 u1 : Value) : Bx ((w.setCell ⟨b, 0, none⟩ u0).setCell ⟨b, 1, none⟩ u1) b t #[u0, u1] := by
  have := (h.set 0 u0).set 1 u1
  simpa using this
structure CpF (wb wr : World) (x : Ln) (s1 s2 : Option (Nat × Nat × Nat)) (s3 : Option Nat) : Prop where
  r1 : ∀ g c n, s1 = some (g, c, n) → Own wr g c n 3 46 (bkF x.N x.I x.O) ∧ wb.heap.size ≤ g
  r2 : ∀ g c n, s2 = some (g, c, n) → Own wr g c n 1 3 (fun i => .int .i64 (x.T i)) ∧ wb.heap.size ≤ g
  r3 : ∀ b, s3 = some b → Bx wr b 75 #[.slice none 0 0, .slice none 0 0] ∧ wb.heap.size ≤ b
  d12 : ∀ g c n g' c' n', s1 = some (g, c, n) → s2 = some (g', c', n') → g ≠ g'
  d13 : ∀ g c n b, s1 = some (g, c, n) → s3 = some b → g ≠ b
  d23 : ∀ g c n b, s2 = some (g, c, n) → s3 = some b → g ≠ b
  bl : Below wb.heap.size wb wr
theorem CpF.start (wb : World) (x : Ln) : CpF wb wb.drew x none none none :=
  ⟨fun _ _ _ h => (by cases h), fun _ _ _ h => (by cases h), fun _ h => (by cases h), fun _ _ _ _ _ _ h => (by cases h), fun _ _ _ _ h => (by cases h), fun _ _ _ _ h => (by cases h), (Below.refl _ _).drew⟩
theorem CpF.makeB {wb wr : World} {x : Ln} {s2 : Option (Nat × Nat × Nat)} {s3 : Option Nat} (h : CpF wb wr x none s2 s3) : CpF wb (wr.alloc (.cells #[] 46)) x (some (wr.heap.size, 0, 0)) s2 s3 := by
  have hz := h.bl.size
  refine ⟨fun g c n e => ?_, fun g c n e => ⟨(h.r2 g c n e).1.alloc _, (h.r2 g c n e).2⟩, fun b e => ⟨(h.r3 b e).1.alloc _, (h.r3 b e).2⟩, fun g c n g' c' n' e e' => ?_, fun g c n b e e' => ?_, h.d23, h.bl.alloc hz _⟩
  · cases e; exact ⟨own_empty _ _ _ _, hz⟩
  · cases e; have := (h.r2 _ _ _ e').1.lt; omega
  · cases e; have := (h.r3 _ e').1.lt; omega
theorem CpF.makeI {wb wr : World} {x : Ln} {s1 : Option (Nat × Nat × Nat)} {s3 : Option Nat} (h : CpF wb wr x s1 none s3) : CpF wb (wr.alloc (.cells #[] 3)) x s1 (some (wr.heap.size, 0, 0)) s3 := by
  have hz := h.bl.size
  refine ⟨fun g c n e => ⟨(h.r1 g c n e).1.alloc _, (h.r1 g c n e).2⟩, fun g c n e => ?_, fun b e => ⟨(h.r3 b e).1.alloc _, (h.r3 b e).2⟩, fun g c n g' c' n' e e' => ?_, h.d13, fun g c n b e e' => ?_, h.bl.alloc hz _⟩
  · cases e; exact ⟨own_empty _ _ _ _, hz⟩
  · cases e'; have := (h.r1 _ _ _ e).1.lt; omega
  · cases e; have := (h.r3 _ e').1.lt; omega
theorem CpF.makeL {wb wr : World} {x : Ln} {s1 s2 : Option (Nat × Nat × Nat)} (h : CpF wb wr x s1 s2 none) : CpF wb (wr.alloc (.cells #[.slice none 0 0, .slice none 0 0] 75)) x s1 s2 (some wr.heap.size) := by
  have hz := h.bl.size
  refine ⟨fun g c n e => ⟨(h.r1 g c n e).1.alloc _, (h.r1 g c n e).2⟩, fun g c n e => ⟨(h.r2 g c n e).1.alloc _, (h.r2 g c n e).2⟩, fun b e => ?_, h.d12, fun g c n b e e' => ?_, fun g c n b e e' => ?_, h.bl.alloc hz _⟩
  · cases e; exact ⟨Bx.new _ _ _, hz⟩
  · cases e'; have := (h.r1 _ _ _ e).1.lt; omega
  · cases e'; have := (h.r2 _ _ _ e).1.lt; omega
theorem CpF.appB {wb wr wa : World} {x : Ln} {s2 : Option (Nat × Nat × Nat)} {s3 : Option Nat} {g g1 c1 : Nat} (h : CpF wb wr x (some (g, 0, 0)) s2 s3) (ho : Own wa g1 c1 x.n 3 46 (bkF x.N x.I x.O)) (hg : wr.grownBy wa (some g)) (hd : (g1 = g ∧ c1 = 0) ∨ wr.heap.size ≤ g1) :
    CpF wb wa x (some (g1, c1, x.n)) s2 s3 := by
  have hz := h.bl.size
  have hg0 := (h.r1 _ _ _ rfl).2
  refine ⟨fun g c n e => ?_, fun g' c n e => ⟨(h.r2 g' c n e).1.picked hg (fun q => h.d12 _ _ _ _ _ _ rfl e q.symm), (h.r2 g' c n e).2⟩, fun b e => ⟨(h.r3 b e).1.kept hg (fun q => h.d13 _ _ _ _ rfl e q.symm), (h.r3 b e).2⟩, fun g c n g' c' n' e e' => ?_, fun g c n b e e' => ?_, h.d23, h.bl.trans (below_of_grown hg hg0 hz)⟩
  · cases e; exact ⟨ho, by omega⟩
  · cases e
    have h1 := h.d12 _ _ _ _ _ _ rfl e'
    have h2 := (h.r2 _ _ _ e').1.lt
    omega
  · cases e
    have h1 := h.d13 _ _ _ _ rfl e'
    have h2 := (h.r3 _ e').1.lt
    omega
theorem CpF.appI {wb wr wa : World} {x : Ln} {s1 : Option (Nat × Nat × Nat)} {s3 : Option Nat} {g g2 c2 : Nat} (h : CpF wb wr x s1 (some (g, 0, 0)) s3) (ho : Own wa g2 c2 x.m 1 3 (fun i => .int .i64 (x.T i))) (hg : wr.grownBy wa (some g)) (hd : (g2 = g ∧ c2 = 0) ∨ wr.heap.size ≤ g2) :
    CpF wb wa x s1 (some (g2, c2, x.m)) s3 := by
  have hz := h.bl.size
  have hg0 := (h.r2 _ _ _ rfl).2
  refine ⟨fun g' c n e => ⟨(h.r1 g' c n e).1.picked hg (fun q => h.d12 _ _ _ _ _ _ e rfl q), (h.r1 g' c n e).2⟩, fun g c n e => ?_, fun b e => ⟨(h.r3 b e).1.kept hg (fun q => h.d23 _ _ _ _ rfl e q.symm), (h.r3 b e).2⟩, fun g' c n g'' c' n' e e' => ?_, h.d13, fun g' c n b e e' => ?_, h.bl.trans (below_of_grown hg hg0 hz)⟩
  · cases e; exact ⟨ho, by omega⟩
  · cases e'
    have h1 := h.d12 _ _ _ _ _ _ e rfl
    have h2 := (h.r1 _ _ _ e).1.lt
    omega
  · cases e
    have h1 := h.d23 _ _ _ _ rfl e'
    have h2 := (h.r3 _ e').1.lt
    omega
theorem CpF.ownB {wb wr : World} {x : Ln} {s2 : Option (Nat × Nat × Nat)} {s3 : Option Nat} {g c n : Nat} (h : CpF wb wr x (some (g, c, n)) s2 s3) : Own wr g c n 3 46 (bkF x.N x.I x.O) := (h.r1 _ _ _ rfl).1
theorem CpF.ownI {wb wr : World} {x : Ln} {s1 : Option (Nat × Nat × Nat)} {s3 : Option Nat} {g c n : Nat} (h : CpF wb wr x s1 (some (g, c, n)) s3) : Own wr g c n 1 3 (fun i => .int .i64 (x.T i)) := (h.r2 _ _ _ rfl).1
theorem CpF.bx {wb wr : World} {x : Ln} {s1 s2 : Option (Nat × Nat × Nat)} {b : Nat} (h : CpF wb wr x s1 s2 (some b)) : Bx wr b 75 #[.slice none 0 0, .slice none 0 0] := (h.r3 _ rfl).1
theorem CpF.bxl {wb wr : World} {x : Ln} {s1 s2 : Option (Nat × Nat × Nat)} {b : Nat} (h : CpF wb wr x s1 s2 (some b)) : wb.heap.size ≤ b := (h.r3 _ rfl).2
theorem CpF.doneS {wb wr : World} {x : Ln} {g1 c1 g2 c2 b : Nat} (h : CpF wb wr x (some (g1, c1, x.n)) (some (g2, c2, x.m)) (some b)) :
    CpC wb wb.heap.size x (.pointer (some ⟨b, 0, none⟩)) ((wr.setCell ⟨b, 0, none⟩ (.slice (some ⟨g1, 0, none⟩) x.n c1)).setCell ⟨b, 1, none⟩ (.slice (some ⟨g2, 0, none⟩) x.m c2)) := by
  have h1 := h.d13 _ _ _ _ rfl rfl
  have h2 := h.d23 _ _ _ _ rfl rfl
  exact ⟨b, g1, c1, g2, c2, rfl, bx2 h.bx _ _, (h.ownB.setOther (by dsimp only; omega) _).setOther (by dsimp only; omega) _, (h.ownI.setOther (by dsimp only; omega) _).setOther (by dsimp only; omega) _, h.bxl, (h.r1 _ _ _ rfl).2, (h.r2 _ _ _ rfl).2, fun e => h1 e.symm, fun e => h2 e.symm, h.d12 _ _ _ _ _ _ rfl rfl,
    (h.bl.setCell (p := ⟨b, 0, none⟩) h.bxl _).setCell (p := ⟨b, 1, none⟩) h.bxl _⟩
theorem CpF.doneL {wb wr : World} {x : Ln} {g1 c1 g2 c2 : Nat} (h : CpF wb wr x (some (g1, c1, x.n)) (some (g2, c2, x.m)) none) :
    CpC wb wb.heap.size x (.pointer (some ⟨wr.heap.size, 0, none⟩)) (wr.alloc (.cells #[.slice (some ⟨g1, 0, none⟩) x.n c1, .slice (some ⟨g2, 0, none⟩) x.m c2] 75)) := by
  have h1 := h.ownB.lt
  have h2 := h.ownI.lt
  exact ⟨wr.heap.size, g1, c1, g2, c2, rfl, Bx.new _ _ _, h.ownB.alloc _, h.ownI.alloc _, h.bl.size, (h.r1 _ _ _ rfl).2, (h.r2 _ _ _ rfl).2, by omega, by omega, h.d12 _ _ _ _ _ _ rfl rfl, h.bl.alloc h.bl.size _⟩
end Go.Proofs.Ytokddeoliieofaa
namespace Go.Proofs.Ytokddeoliieofaa
open Go.RowKit

/-- the boxes of the reference's step -/
structure StM (w wr : World) (v1 v2 : Value) (s : Int) (l : ByteArray) : Prop where
  arg : Bx wr w.heap.size 75 #[v1, v2]
  mb : Bx wr (w.heap.size + 1) 123 #[.int .i64 s, .string l]
  res : Bx wr (w.heap.size + 1 + 1) 75 #[.slice none 0 0, .slice none 0 0]
  bl : Below w.heap.size w wr
theorem StM.below {w wr w' : World} {v1 v2 : Value} {s : Int} {l : ByteArray} {D : Nat} (h : StM w wr v1 v2 s l) (hb : Below D wr w') (hD : w.heap.size + 3 ≤ D) : StM w w' v1 v2 s l :=
  ⟨h.arg.below hb (by omega), h.mb.below hb (by omega), h.res.below hb (by omega), h.bl.trans (hb.mono (by omega))⟩
theorem StM.sz {w wr : World} {v1 v2 : Value} {s : Int} {l : ByteArray} (h : StM w wr v1 v2 s l) : w.heap.size + 3 ≤ wr.heap.size := by
  have := h.res.lt; omega
/-- behind the step of the block -/
def StCL (w : World) (z : Nat) (v1 v2 : Value) (x : Ln) (s : Int) (l : ByteArray) (s6 s7 : Value) (wx : World) : Prop :=
  ∃ b6 a b c, s6 = .pointer (some ⟨b6, 0, none⟩) ∧ s7 = .bool (decide (mvJ x s l < 5)) ∧ StM w wx v1 v2 s l ∧ Bx wx b6 46 #[.int .i64 a, .bool b, .bool c] ∧ z ≤ b6 ∧ bsV (mvJ x s l) = .agg #[.int .i64 a, .bool b, .bool c]
/-- behind the copy -/
structure SfM (w wr : World) (v1 v2 : Value) (s : Int) (l : ByteArray) (b8 g1 c1 g2 c2 : Nat) (y : Ln) : Prop where
  st : StM w wr v1 v2 s l
  box : Bx wr b8 75 #[.slice (some ⟨g1, 0, none⟩) y.n c1, .slice (some ⟨g2, 0, none⟩) y.m c2]
  bs : Own wr g1 c1 y.n 3 46 (bkF y.N y.I y.O)
  ts : Own wr g2 c2 y.m 1 3 (fun i => .int .i64 (y.T i))
  z8 : w.heap.size + 3 ≤ b8
  z1 : w.heap.size + 3 ≤ g1
  z2 : w.heap.size + 3 ≤ g2
  d1 : b8 ≠ g1
  d2 : b8 ≠ g2
  d3 : g1 ≠ g2
theorem SfM.bl {w wr : World} {v1 v2 : Value} {s : Int} {l : ByteArray} {b8 g1 c1 g2 c2 : Nat} {y : Ln} (h : SfM w wr v1 v2 s l b8 g1 c1 g2 c2 y) {k : Nat} (hk : k < y.n) : wr.cell? ⟨g1, k * 3, none⟩ = some (.int .i64 (y.N k)) ∧ wr.cell? ⟨g1, k * 3 + 1, none⟩ = some (.bool (y.I k)) ∧ wr.cell? ⟨g1, k * 3 + 2, none⟩ = some (.bool (y.O k)) := by
  have := (BkC.of_own h.bs).at k hk
  simpa using this
theorem SfM.below {w wr w' : World} {v1 v2 : Value} {s : Int} {l : ByteArray} {b8 g1 c1 g2 c2 : Nat} {y : Ln} (h : SfM w wr v1 v2 s l b8 g1 c1 g2 c2 y) (hb : Below wr.heap.size wr w') : SfM w w' v1 v2 s l b8 g1 c1 g2 c2 y :=
  ⟨h.st.below hb h.st.sz, h.box.below hb h.box.lt, h.bs.below hb h.bs.lt, h.ts.below hb h.ts.lt, h.z8, h.z1, h.z2, h.d1, h.d2, h.d3⟩
theorem StM.setOther {w wr : World} {v1 v2 : Value} {s : Int} {l : ByteArray} (h : StM w wr v1 v2 s l) {b o : Nat} (hb : w.heap.size + 3 ≤ b) (v : Value) : StM w (wr.setCell ⟨b, o, none⟩ v) v1 v2 s l :=
  ⟨h.arg.setOther (by dsimp only; omega) _, h.mb.setOther (by dsimp only; omega) _, h.res.setOther (by dsimp only; omega) _, h.bl.setCell (p := ⟨b, o, none⟩) (by dsimp only; omega) _⟩
theorem SfM.setBk {w wr : World} {v1 v2 : Value} {s : Int} {l : ByteArray} {b8 g1 c1 g2 c2 : Nat} {y : Ln} (h : SfM w wr v1 v2 s l b8 g1 c1 g2 c2 y) (k : Nat) (a : Int) (b c : Bool) :
    SfM w (((wr.setCell ⟨g1, k * 3, none⟩ (.int .i64 a)).setCell ⟨g1, k * 3 + 1, none⟩ (.bool b)).setCell ⟨g1, k * 3 + 2, none⟩ (.bool c)) v1 v2 s l b8 g1 c1 g2 c2 { y with N := upd y.N k a, I := upd y.I k b, O := upd y.O k c } := by
  have d1 := h.d1
  have d3 := h.d3
  exact ⟨((h.st.setOther h.z1 _).setOther h.z1 _).setOther h.z1 _, ((h.box.setOther (by dsimp only; omega) _).setOther (by dsimp only; omega) _).setOther (by dsimp only; omega) _, h.bs.setBk k a b c, ((h.ts.setOther (by dsimp only; omega) _).setOther (by dsimp only; omega) _).setOther (by dsimp only; omega) _, h.z8, h.z1, h.z2, h.d1, h.d2, h.d3⟩
theorem SfM.setTr {w wr : World} {v1 v2 : Value} {s : Int} {l : ByteArray} {b8 g1 c1 g2 c2 : Nat} {y : Ln} (h : SfM w wr v1 v2 s l b8 g1 c1 g2 c2 y) (j : Nat) (a : Int) :
    SfM w (wr.setCell ⟨g2, j, none⟩ (.int .i64 a)) v1 v2 s l b8 g1 c1 g2 c2 { y with T := upd y.T j a } := by
  have d2 := h.d2
  have d3 := h.d3
  exact ⟨h.st.setOther h.z2 _, h.box.setOther (by dsimp only; omega) _, h.bs.setOther (by dsimp only; omega) _, h.ts.setInt j a, h.z8, h.z1, h.z2, h.d1, h.d2, h.d3⟩
/-- the result box filled -/
theorem SfM.done {w wr : World} {v1 v2 : Value} {s : Int} {l : ByteArray} {b8 g1 c1 g2 c2 : Nat} {y : Ln} (h : SfM w wr v1 v2 s l b8 g1 c1 g2 c2 y) (u0 u1 : Value) :
    LnO w.heap.size ((wr.setCell ⟨w.heap.size + 1 + 1, 0, none⟩ u0).setCell ⟨w.heap.size + 1 + 1, 1, none⟩ u1) (.agg #[.slice (some ⟨g1, 0, none⟩) y.n c1, .slice (some ⟨g2, 0, none⟩) y.m c2]) y ∧ Below w.heap.size w ((wr.setCell ⟨w.heap.size + 1 + 1, 0, none⟩ u0).setCell ⟨w.heap.size + 1 + 1, 1, none⟩ u1) := by
  have z1 := h.z1
  have z2 := h.z2
  exact ⟨⟨g1, c1, g2, c2, rfl, (h.bs.setOther (by dsimp only; omega) _).setOther (by dsimp only; omega) _, (h.ts.setOther (by dsimp only; omega) _).setOther (by dsimp only; omega) _, h.d3, by omega, by omega⟩, (h.st.bl.setCell (p := ⟨w.heap.size + 1 + 1, 0, none⟩) (by dsimp only; omega) _).setCell (p := ⟨w.heap.size + 1 + 1, 1, none⟩) (by dsimp only; omega) _⟩
theorem stepO_no {x : Ln} {s : Int} {l : ByteArray} (h : mvOk x s l = false) : stepO x s l = none := by unfold stepO; rw [h]; rfl
theorem stepO_yes {x : Ln} {s : Int} {l : ByteArray} (h : mvOk x s l = true) : stepO x s l = some (mvTo x s l) := by unfold stepO; rw [h]; rfl
end Go.Proofs.Ytokddeoliieofaa
namespace Go.Proofs.Ytokddeoliieofaa
open Go.RowKit

/-- the boxes of the reference's LineRun: the argument, the result, the line so far -/
structure SrML (w wr : World) (v1 v2 : Value) (b6 : Nat) (va vb : Value) : Prop where
  arg : Bx wr w.heap.size 75 #[v1, v2]
  res : Bx wr (w.heap.size + 1) 75 #[.slice none 0 0, .slice none 0 0]
  out : Bx wr b6 75 #[va, vb]
  bl : Below w.heap.size w wr
  z6 : w.heap.size + 2 ≤ b6
/-- a line in memory beyond z -/
def LnZ (z : Nat) (w : World) (va vb : Value) (y : Ln) : Prop :=
  ∃ g1 c1 g2 c2, va = .slice (some ⟨g1, 0, none⟩) y.n c1 ∧ vb = .slice (some ⟨g2, 0, none⟩) y.m c2 ∧ Own w g1 c1 y.n 3 46 (bkF y.N y.I y.O) ∧ Own w g2 c2 y.m 1 3 (fun i => .int .i64 (y.T i)) ∧ g1 ≠ g2 ∧ z ≤ g1 ∧ z ≤ g2
theorem LnZ.below {z D : Nat} {w w' : World} {va vb : Value} {y : Ln} (h : LnZ z w va vb y) (hb : Below D w w') (hD : w.heap.size ≤ D) : LnZ z w' va vb y := by
  obtain ⟨g1, c1, g2, c2, e1, e2, h1, h2, h3⟩ := h
  exact ⟨g1, c1, g2, c2, e1, e2, h1.below hb (Nat.lt_of_lt_of_le h1.lt hD), h2.below hb (Nat.lt_of_lt_of_le h2.lt hD), h3⟩
theorem LnZ.setOther {z : Nat} {w : World} {va vb : Value} {y : Ln} (h : LnZ z w va vb y) {b o : Nat} (hb : ∀ g1 c1 n, va = .slice (some ⟨g1, 0, none⟩) n c1 → b ≠ g1) (hb' : ∀ g2 c2 n, vb = .slice (some ⟨g2, 0, none⟩) n c2 → b ≠ g2) (u : Value) : LnZ z (w.setCell ⟨b, o, none⟩ u) va vb y := by
  obtain ⟨g1, c1, g2, c2, rfl, rfl, h1, h2, h3⟩ := h
  exact ⟨g1, c1, g2, c2, rfl, rfl, h1.setOther (fun e => hb _ _ _ rfl e.symm) _, h2.setOther (fun e => hb' _ _ _ rfl e.symm) _, h3⟩
theorem SrML.below {w wr w' : World} {v1 v2 va vb : Value} {b6 D : Nat} (h : SrML w wr v1 v2 b6 va vb) (hb : Below D wr w') (hD : wr.heap.size ≤ D) : SrML w w' v1 v2 b6 va vb :=
  ⟨h.arg.below hb (Nat.lt_of_lt_of_le h.arg.lt hD), h.res.below hb (Nat.lt_of_lt_of_le h.res.lt hD), h.out.below hb (Nat.lt_of_lt_of_le h.out.lt hD), h.bl.trans (hb.mono (Nat.le_trans h.bl.size hD)), h.z6⟩
theorem SrML.setOther {w wr : World} {v1 v2 va vb : Value} {b6 b o : Nat} (h : SrML w wr v1 v2 b6 va vb) (hb : b ≠ b6) (hz : w.heap.size + 2 ≤ b) (u : Value) : SrML w (wr.setCell ⟨b, o, none⟩ u) v1 v2 b6 va vb :=
  ⟨h.arg.setOther (by dsimp only; omega) _, h.res.setOther (by dsimp only; omega) _, h.out.setOther (fun e => hb e.symm) _, h.bl.setCell (p := ⟨b, o, none⟩) (by dsimp only; omega) _, h.z6⟩
/-- behind a step that fails -/
def SeN (w : World) (v1 v2 : Value) (b6 : Nat) (va vb : Value) (s8 s9 : Value) (wx : World) : Prop := ∃ b8, s8 = .pointer (some ⟨b8, 0, none⟩) ∧ s9 = .bool false ∧ SrML w wx v1 v2 b6 va vb
theorem LnZ.mono {z z' : Nat} {w : World} {va vb : Value} {y : Ln} (h : LnZ z w va vb y) (hz : z' ≤ z) : LnZ z' w va vb y := by
  obtain ⟨g1, c1, g2, c2, e1, e2, h1, h2, h3, h4, h5⟩ := h
  exact ⟨g1, c1, g2, c2, e1, e2, h1, h2, h3, by omega, by omega⟩
theorem LnZ.lts {z : Nat} {w : World} {p1 n1 c1 p2 n2 c2 : Nat} {y : Ln} (h : LnZ z w (.slice (some ⟨p1, 0, none⟩) n1 c1) (.slice (some ⟨p2, 0, none⟩) n2 c2) y) : p1 < w.heap.size ∧ p2 < w.heap.size := by
  obtain ⟨g1, c1, g2, c2, e1, e2, h1, h2, h3, h4, h5⟩ := h
  cases e1
  cases e2
  exact ⟨h1.lt, h2.lt⟩
theorem LnZ.done {w wr : World} {p1 c1 p2 c2 : Nat} {y : Ln} (h : LnZ (w.heap.size + 2) wr (.slice (some ⟨p1, 0, none⟩) y.n c1) (.slice (some ⟨p2, 0, none⟩) y.m c2) y) (u0 u1 : Value) :
    LnO w.heap.size ((wr.setCell ⟨w.heap.size + 1, 0, none⟩ u0).setCell ⟨w.heap.size + 1, 1, none⟩ u1) (.agg #[.slice (some ⟨p1, 0, none⟩) y.n c1, .slice (some ⟨p2, 0, none⟩) y.m c2]) y := by
  obtain ⟨g1, c1, g2, c2, e1, e2, h1, h2, h3, h4, h5⟩ := h
  cases e1
  cases e2
  exact ⟨_, _, _, _, rfl, (h1.setOther (by dsimp only; omega) _).setOther (by dsimp only; omega) _, (h2.setOther (by dsimp only; omega) _).setOther (by dsimp only; omega) _, h3, by omega, by omega⟩
theorem SrML.setOut {w wr : World} {v1 v2 va vb : Value} {b6 : Nat} (h : SrML w wr v1 v2 b6 va vb) (u0 u1 : Value) : SrML w ((wr.setCell ⟨b6, 0, none⟩ u0).setCell ⟨b6, 1, none⟩ u1) v1 v2 b6 u0 u1 := by
  have z := h.z6
  exact ⟨(h.arg.setOther (by dsimp only; omega) _).setOther (by dsimp only; omega) _, (h.res.setOther (by dsimp only; omega) _).setOther (by dsimp only; omega) _, bx2 h.out _ _, (h.bl.setCell (p := ⟨b6, 0, none⟩) (by dsimp only; omega) _).setCell (p := ⟨b6, 1, none⟩) (by dsimp only; omega) _, h.z6⟩
/-- behind a step that is done -/
def SeY (w : World) (v1 v2 : Value) (b6 : Nat) (va vb : Value) (z : Nat) (y' : Ln) (s8 s9 : Value) (wx : World) : Prop :=
  ∃ b8 p1 e1 p2 e2, s8 = .pointer (some ⟨b8, 0, none⟩) ∧ s9 = .bool true ∧ SrML w wx v1 v2 b6 va vb ∧ Bx wx b8 75 #[.slice (some ⟨p1, 0, none⟩) y'.n e1, .slice (some ⟨p2, 0, none⟩) y'.m e2] ∧ LnZ z wx (.slice (some ⟨p1, 0, none⟩) y'.n e1) (.slice (some ⟨p2, 0, none⟩) y'.m e2) y' ∧ z ≤ b8 ∧ b8 ≠ p1 ∧ b8 ≠ p2 ∧ z ≤ p1 ∧ z ≤ p2
end Go.Proofs.Ytokddeoliieofaa
namespace Go.Proofs.Ytokddeoliieofaa
open Go.RowKit

/-- a row of blocks as a value; where n is 0 it may be nil -/
def BL (w : World) (v : Value) (n : Nat) (N : Nat → Int) (I O : Nat → Bool) : Prop :=
  (∃ b o c, v = .slice (some ⟨b, o, none⟩) n c ∧ BkC w b o n N I O) ∨ (n = 0 ∧ ∃ ao c, v = .slice ao 0 c)
theorem BL.keep {w w' : World} {v : Value} {n : Nat} {N : Nat → Int} {I O : Nat → Bool} (h : BL w v n N I O) (hb : Below w.heap.size w w') : BL w' v n N I O := by
  rcases h with ⟨b, o, c, e, h⟩ | h
  · exact .inl ⟨b, o, c, e, h.keep hb⟩
  · exact .inr h
theorem BL.shape {w : World} {v : Value} {n : Nat} {N : Nat → Int} {I O : Nat → Bool} (h : BL w v n N I O) : ∃ ao c, v = .slice ao n c := by
  rcases h with ⟨b, o, c, e, _⟩ | ⟨rfl, ao, c, e⟩
  · exact ⟨_, _, e⟩
  · exact ⟨_, _, e⟩
theorem elMvL : Elem Try.prog 79 123 (.agg #[.int .i64 0, .string ⟨#[]⟩]) 2 24 := ⟨Try.underlying79, by kernel_rfl, rfl, by decide⟩
theorem bkF_congr {N N' : Nat → Int} {I I' O O' : Nat → Bool} {n : Nat} (h1 : ∀ k, k < n → N k = N' k) (h2 : ∀ k, k < n → I k = I' k) (h3 : ∀ k, k < n → O k = O' k) : ∀ i, i < n * 3 → bkF N I O i = bkF N' I' O' i := fun i hi => by
  unfold bkF
  rw [h1 _ (by omega), h2 _ (by omega), h3 _ (by omega)]
theorem Own.bl {w : World} {g cap n : Nat} {N : Nat → Int} {I O : Nat → Bool} {t : TypeId} (h : Own w g cap n 3 t (bkF N I O)) {k : Nat} (hk : k < n) : w.cell? ⟨g, k * 3, none⟩ = some (.int .i64 (N k)) ∧ w.cell? ⟨g, k * 3 + 1, none⟩ = some (.bool (I k)) ∧ w.cell? ⟨g, k * 3 + 2, none⟩ = some (.bool (O k)) := by
  have := (BkC.of_own h).at k hk
  simpa using this
/-- a row of zero blocks -/
theorem own_bk0 (w : World) (n : Nat) (hn : n ≤ 1000000000000) : Own (w.alloc (.cells (madeCells #[.int .i64 0, .bool false, .bool false] (n * 3)) 46)) w.heap.size n n 3 46 (bkF (fun _ => 0) (fun _ => false) (fun _ => false)) :=
  own_full w _ n 3 _ _ (by unfold maxLen; omega) rfl (by omega) (fun i _ => by
    unfold bkF
    have h3 : i % 3 = 0 ∨ i % 3 = 1 ∨ i % 3 = 2 := by omega
    rcases h3 with h | h | h <;> simp [h])
theorem own_mv0L (w : World) (n : Nat) (hn : n ≤ 1000000000000) : Own (w.alloc (.cells (madeCells #[.int .i64 0, .string ⟨#[]⟩] (n * 2)) 123)) w.heap.size n n 2 123 (mvF (fun _ => 0) (fun _ => ⟨#[]⟩)) :=
  own_full w _ n 2 _ _ (by unfold maxLen; omega) rfl (by omega) (fun i _ => by
    unfold mvF
    have h2 : i % 2 = 0 ∨ i % 2 = 1 := by omega
    rcases h2 with h | h <;> simp [h])
end Go.Proofs.Ytokddeoliieofaa
namespace Go.Proofs.Ytokddeoliieofaa
open Go.RowKit

/-- a line as an argument -/
def LnV (w : World) (v : Value) (x : Ln) : Prop := ∃ va vb, v = .agg #[va, vb] ∧ BL w va x.n x.N x.I x.O ∧ SL w vb x.m x.T
theorem LnV.keep {w w' : World} {v : Value} {x : Ln} (h : LnV w v x) (hb : Below w.heap.size w w') : LnV w' v x := by
  obtain ⟨va, vb, e, h1, h2⟩ := h
  exact ⟨va, vb, e, h1.keep hb, h2.keep hb⟩
theorem szR_add {n m : Nat} {left : Int} : szR m (left - n) = szR (n + m) left := by
  unfold szR
  rw [show ((n + m : Nat) : Int) = n + m by omega, show left - ((n : Int) + m) = left - n - m by omega]
theorem szR_neg {n m : Nat} {left : Int} (h : left - n < 0) : szR (n + m) left = -1 := by
  unfold szR
  rw [if_pos (by omega)]
end Go.Proofs.Ytokddeoliieofaa
namespace Go.Proofs.Ytokddeoliieofaa
open Go.RowKit

end Go.Proofs.Ytokddeoliieofaa
namespace Go.Proofs.Ytokddeoliieofaa
open Go.RowKit

def mkN (m : Int) (i : Nat) : Int := m + 3 * i
def mkI (m : Int) (i : Nat) : Bool := (m + 3 * i + 1) % 3 == 0
def mkO (m : Int) (i : Nat) : Bool := (m + 3 * i + 1 + 1) % 3 == 0
end Go.Proofs.Ytokddeoliieofaa
namespace Go.Proofs.Ytokddeoliieofaa
open Go.RowKit

/-- a row of blocks of its own (block g), or nil -/
def RowB (w : World) (v : Value) (n : Nat) (f : Nat → Value) (g : Option Nat) : Prop :=
  (∃ b c, g = some b ∧ v = .slice (some ⟨b, 0, none⟩) n c ∧ Own w b c n 3 46 f) ∨ (g = none ∧ n = 0 ∧ v = .slice none 0 0)
theorem RowB.below {w w' : World} {v : Value} {n : Nat} {f : Nat → Value} {g : Option Nat} (h : RowB w v n f g) (hb : Below w.heap.size w w') : RowB w' v n f g := by
  rcases h with ⟨b, c, e, e2, h⟩ | h
  · exact .inl ⟨b, c, e, e2, h.below hb h.lt⟩
  · exact .inr h
theorem RowB.grown {w w' : World} {v : Value} {n : Nat} {f : Nat → Value} {g row : Option Nat} (h : RowB w v n f g) (hb : w.grownBy w' row) (hne : ∀ b, g = some b → row ≠ some b) : RowB w' v n f g := by
  rcases h with ⟨b, c, e, e2, h⟩ | h
  · exact .inl ⟨b, c, e, e2, h.kept hb (fun q => hne b e q.symm)⟩
  · exact .inr h
theorem RowB.reads {w : World} {v : Value} {n : Nat} {N : Nat → Int} {I O : Nat → Bool} {g : Option Nat} (h : RowB w v n (bkF N I O) g) : BL w v n N I O := by
  rcases h with ⟨b, c, e, e2, h⟩ | ⟨e, e2, e3⟩
  · exact .inl ⟨b, 0, c, e2, BkC.of_own h⟩
  · exact .inr ⟨e2, _, _, e3⟩
end Go.Proofs.Ytokddeoliieofaa
namespace Go.Proofs.Ytokddeoliieofaa
open Go.RowKit

theorem RowB.lt {w : World} {v : Value} {n : Nat} {f : Nat → Value} {g : Option Nat} (h : RowB w v n f g) : ∀ b, g = some b → b < w.heap.size := fun b e => by
  rcases h with ⟨b', c, e1, e2, h⟩ | ⟨e1, _⟩
  · rw [e1] at e; cases e; exact h.lt
  · rw [e1] at e; cases e
/-- marks on a line -/
def mkLn (y : Ln) (m : Int) : Ln := { n := y.n, N := mkN m, I := mkI m, O := mkO m, m := y.m, T := fun i => m + 3 * y.n + i }
/-- a line in a box, its rows its own -/
structure LB (w : World) (b : Nat) (va vb : Value) (y : Ln) (g1 g2 : Option Nat) : Prop where
  bx : Bx w b 75 #[va, vb]
  rb : RowB w va y.n (bkF y.N y.I y.O) g1
  ri : RowI w vb y.m y.T g2
  nb1 : ∀ c, g1 = some c → b ≠ c
  nb2 : ∀ c, g2 = some c → b ≠ c
  n12 : ∀ c, g1 = some c → g2 ≠ some c
theorem LB.below {w w' : World} {b : Nat} {va vb : Value} {y : Ln} {g1 g2 : Option Nat} (h : LB w b va vb y g1 g2) (hb : Below w.heap.size w w') : LB w' b va vb y g1 g2 :=
  ⟨h.bx.below hb h.bx.lt, h.rb.below hb, h.ri.below hb, h.nb1, h.nb2, h.n12⟩
theorem LB.grown {w w' : World} {b : Nat} {va vb : Value} {y : Ln} {g1 g2 row : Option Nat} (h : LB w b va vb y g1 g2) (hb : w.grownBy w' row) (hn : ∀ c, row = some c → b ≠ c ∧ g1 ≠ some c ∧ g2 ≠ some c) : LB w' b va vb y g1 g2 :=
  ⟨h.bx.grown hb (fun e => (hn b e).1 rfl), h.rb.grown hb (fun c e e2 => (hn c e2).2.1 e), h.ri.grown hb (fun c e e2 => (hn c e2).2.2 e), h.nb1, h.nb2, h.n12⟩
theorem LB.reads {w : World} {b : Nat} {va vb : Value} {y : Ln} {g1 g2 : Option Nat} (h : LB w b va vb y g1 g2) : LnV w (.agg #[va, vb]) y := ⟨va, vb, rfl, h.rb.reads, h.ri.reads⟩
/-- the blocks of a line lie from z on -/
def Fr2 (z : Nat) (w : World) (g1 g2 : Option Nat) : Prop := (∀ c, g1 = some c → z ≤ c ∧ c < w.heap.size) ∧ (∀ c, g2 = some c → z ≤ c ∧ c < w.heap.size)
/-- what a call hands back as a line -/
def LnN (z : Nat) (w : World) (va vb : Value) (y : Ln) (g1 g2 : Option Nat) : Prop :=
  RowB w va y.n (bkF y.N y.I y.O) g1 ∧ RowI w vb y.m y.T g2 ∧ (∀ c, g1 = some c → g2 ≠ some c) ∧ Fr2 z w g1 g2
theorem LnN.boxed {z : Nat} {w : World} {va vb : Value} {y : Ln} {g1 g2 : Option Nat} (h : LnN z w va vb y g1 g2) : LB (w.alloc (.cells #[va, vb] 75)) w.heap.size va vb y g1 g2 := by
  obtain ⟨h1, h2, h3, h4, h5⟩ := h
  exact ⟨Bx.new _ _ _, h1.below (below_all _ _), h2.below (below_all _ _), fun c e => by have := (h4 c e).2; omega, fun c e => by have := (h5 c e).2; omega, h3⟩
theorem LnN.reads {z : Nat} {w : World} {va vb : Value} {y : Ln} {g1 g2 : Option Nat} (h : LnN z w va vb y g1 g2) : LnV w (.agg #[va, vb]) y := ⟨va, vb, rfl, h.1.reads, h.2.1.reads⟩
theorem LnO.new {z : Nat} {w : World} {v : Value} {y : Ln} (h : LnO z w v y) : ∃ va vb g1 g2, v = .agg #[va, vb] ∧ LnN z w va vb y g1 g2 := by
  obtain ⟨g1, c1, g2, c2, e, h1, h2, h3, h4, h5⟩ := h
  exact ⟨_, _, some g1, some g2, e, .inl ⟨g1, c1, rfl, rfl, h1⟩, .inl ⟨g2, c2, rfl, rfl, h2⟩, fun c e e2 => by cases e; cases e2; exact h3 rfl, fun c e => by cases e; exact ⟨h4, h1.lt⟩, fun c e => by cases e; exact ⟨h5, h2.lt⟩⟩
def zLn : Ln := ⟨0, fun _ => 0, fun _ => false, fun _ => false, 0, fun _ => 0⟩
theorem LrR.get {o : Option Ln} {w w' : World} {e : Ending} (h : LrR o w e w') : Below w.heap.size w w' ∧ ∃ va vb g1 g2, e = .returned (.tuple #[.agg #[va, vb], .bool o.isSome]) ∧ LnN w.heap.size w' va vb (o.getD zLn) g1 g2 := by
  obtain ⟨hb, ⟨rfl, rfl⟩ | ⟨y, v, rfl, rfl, h⟩⟩ := h
  · exact ⟨hb, _, _, none, none, rfl, .inr ⟨rfl, rfl, rfl⟩, .inr ⟨rfl, rfl, rfl⟩, (fun c e => by cases e), (fun c e => by cases e), (fun c e => by cases e)⟩
  · obtain ⟨va, vb, g1, g2, rfl, hn⟩ := h.new
    exact ⟨hb, va, vb, g1, g2, rfl, hn⟩
end Go.Proofs.Ytokddeoliieofaa
namespace Go.Proofs.Ytokddeoliieofaa
open Go.RowKit

/-- moves of their own -/
def RowM (w : World) (v : Value) (q : Nat) (M : Nat → Int) (L : Nat → ByteArray) (g : Nat) : Prop := ∃ c, v = .slice (some ⟨g, 0, none⟩) q c ∧ Own w g c q 2 123 (mvF M L)
theorem RowM.below {w w' : World} {v : Value} {q : Nat} {M : Nat → Int} {L : Nat → ByteArray} {g : Nat} (h : RowM w v q M L g) (hb : Below w.heap.size w w') : RowM w' v q M L g := by
  obtain ⟨c, e, h⟩ := h
  exact ⟨c, e, h.below hb h.lt⟩
theorem RowM.grown {w w' : World} {v : Value} {q : Nat} {M : Nat → Int} {L : Nat → ByteArray} {g : Nat} {row : Option Nat} (h : RowM w v q M L g) (hb : w.grownBy w' row) (hne : row ≠ some g) : RowM w' v q M L g := by
  obtain ⟨c, e, h⟩ := h
  exact ⟨c, e, h.kept hb (fun e => hne e.symm)⟩
theorem RowM.reads {w : World} {v : Value} {q : Nat} {M : Nat → Int} {L : Nat → ByteArray} {g : Nat} (h : RowM w v q M L g) : MLs w v q M L := by
  obtain ⟨c, e, h⟩ := h
  exact .inl ⟨g, 0, c, e, MvsC.of_own h⟩
theorem RowM.lt {w : World} {v : Value} {q : Nat} {M : Nat → Int} {L : Nat → ByteArray} {g : Nat} (h : RowM w v q M L g) : g < w.heap.size := by
  obtain ⟨c, e, h⟩ := h
  exact h.lt
theorem rnO_nm {x : Ln} {M : Nat → Int} {L : Nat → ByteArray} {q : Nat} {y : Ln} (h : y = (rnO x M L q).getD zLn) : y.n ≤ x.n ∧ y.m ≤ x.m := by
  cases e : rnO x M L q with
  | none => rw [e] at h; subst h; exact ⟨Nat.zero_le _, Nat.zero_le _⟩
  | some z =>
    rw [e] at h
    have h' : y = z := h
    rw [h']
    unfold rnO at e
    split at e
    · have := runO_nm e
      exact ⟨by show z.n ≤ _; omega, by show z.m ≤ _; omega⟩
    · cases e
theorem LB.keepR {w w' : World} {b : Nat} {va vb : Value} {y : Ln} {g1 g2 row : Option Nat} (h : LB w b va vb y g1 g2) (hb : w.grownBy w' row) {lo hi : Nat} (hr : ∀ c, row = some c → lo ≤ c ∧ c < hi) (h1 : ∀ c, g1 = some c → c < lo ∨ hi ≤ c) (h2 : ∀ c, g2 = some c → c < lo ∨ hi ≤ c) (h3 : b < lo ∨ hi ≤ b) : LB w' b va vb y g1 g2 :=
  h.grown hb (fun c e => ⟨by have := hr c e; omega, fun e2 => by have := hr c e; have := h1 c e2; omega, fun e2 => by have := hr c e; have := h2 c e2; omega⟩)
end Go.Proofs.Ytokddeoliieofaa
namespace Go.Proofs.Ytokddeoliieofaa
open Go.RowKit

/-- the letters of a section that can come next -/
def mvLt (x : Ln) (k : Nat) : List UInt8 := nxT (stI (x.N k) (x.I k) (x.O k)) 7
/-- such a letter is passed over: no train waits -/
def mvSk (x : Ln) (k : Nat) (c : UInt8) : Bool := decide (c = 101) && decide (cntA x.T (2 * k) x.m = 0)
/-- the moves of a section by its first i letters -/
def mvI (x : Ln) (k i : Nat) : List (Int × ByteArray) := (((mvLt x k).take i).filter (fun c => !mvSk x k c)).map fun c => ((k : Int), chr c)
def mvK (x : Ln) (k : Nat) : List (Int × ByteArray) := mvI x k (mvLt x k).length
def mvU (x : Ln) (k : Nat) : List (Int × ByteArray) := (List.range k).flatMap (mvK x)
def mvsL (x : Ln) : List (Int × ByteArray) := mvU x x.n
theorem mvU_succ (x : Ln) (k : Nat) : mvU x (k + 1) = mvU x k ++ mvK x k := by simp [mvU, List.range_succ]
theorem mvI_zero (x : Ln) (k : Nat) : mvI x k 0 = [] := rfl
theorem mvI_yes {x : Ln} {k i : Nat} {c : UInt8} (hc : (mvLt x k)[i]? = some c) (h : mvSk x k c = false) : mvI x k (i + 1) = mvI x k i ++ [((k : Int), chr c)] := by
  simp [mvI, List.take_add_one, hc, h]
theorem mvI_skip {x : Ln} {k i : Nat} {c : UInt8} (hc : (mvLt x k)[i]? = some c) (h : mvSk x k c = true) : mvI x k (i + 1) = mvI x k i := by
  simp [mvI, List.take_add_one, hc, h]
theorem mvI_len (x : Ln) (k i : Nat) : (mvI x k i).length ≤ i := by
  simp only [mvI, List.length_map]
  exact Nat.le_trans (List.length_filter_le _ _) (by simp; omega)
theorem mvLt_len (x : Ln) (k : Nat) : (mvLt x k).length ≤ 7 := nxT_len _ _
theorem mvU_len (x : Ln) : ∀ k, (mvU x k).length ≤ 7 * k
  | 0 => by simp [mvU]
  | k + 1 => by
    rw [mvU_succ, List.length_append]
    have h1 := mvU_len x k
    have h2 := mvI_len x k (mvLt x k).length
    have h3 := mvLt_len x k
    unfold mvK
    omega
theorem mvI_pre (x : Ln) (k i : Nat) : mvI x k i <+: mvK x k := by
  unfold mvK mvI
  rw [List.take_length]
  have h : (mvLt x k).take i <+: mvLt x k := List.take_prefix _ _
  obtain ⟨t, ht⟩ := h
  refine ⟨((t.filter (fun c => !mvSk x k c)).map fun c => ((k : Int), chr c)), ?_⟩
  rw [← List.map_append, ← List.filter_append, ht]
theorem mvU_pre (x : Ln) {k : Nat} : ∀ {m : Nat}, k ≤ m → mvU x k <+: mvU x m
  | 0, h => by obtain rfl : k = 0 := by omega
               exact List.prefix_refl _
  | m + 1, h => by
    by_cases e : k = m + 1
    · subst e; exact List.prefix_refl _
    · exact (mvU_pre x (show k ≤ m by omega)).trans (by rw [mvU_succ]; exact List.prefix_append _ _)
theorem mv_pre {x : Ln} {k i : Nat} (hk : k < x.n) : mvU x k ++ mvI x k i <+: mvsL x := by
  have h1 : mvU x k ++ mvI x k i <+: mvU x (k + 1) := by
    rw [mvU_succ]
    exact List.prefix_append_right_inj _ |>.2 (mvI_pre x k i)
  exact h1.trans (mvU_pre x (by omega))
theorem ext_one {l : List UInt8} {i : Nat} {c : UInt8} (h : l[i]? = some c) : (⟨l.toArray⟩ : ByteArray).extract i (i + 1) = chr c := by
  have hi : i < l.length := (List.getElem?_eq_some_iff.1 h).1
  apply ByteArray.ext
  apply Array.toList_inj.1
  rw [show ((⟨l.toArray⟩ : ByteArray).extract i (i + 1)).data = l.toArray.extract i (i + 1) from ByteArray.data_extract]
  rw [Array.toList_extract]
  simp only [List.extract, show i + 1 - i = 1 by omega]
  rw [List.take_one, List.head?_drop, h]
  rfl
theorem RwC.belowN {B : Nat} {w w' : World} {r gb cb gt ct : Nat} {x : Ln} (h : RwC w r gb cb gt ct x) (hb : Below B w w') (h1 : r < B) (h2 : gb < B) (h3 : gt < B) : RwC w' r gb cb gt ct x :=
  ⟨h.box.below hb h1, h.bs.below hb h2, h.ts.below hb h3, h.d1, h.d2, h.d3⟩
attribute [local go_sem] Oper.semAt_some
set_option linter.unusedSimpArgs false in
set_option maxRecDepth 100000 in
set_option maxHeartbeats 4000000 in
theorem mv1_in (n : Nat) (hn : 1 ≤ n) (l Bs n₀ r gb cb gt ct : Nat) (x : Ln) (hxn : x.n ≤ 1000000) (hxm : x.m ≤ 1000000) (J Jx : List (Int × ByteArray) → World → Prop) (W : World)
    (hJ : AbidesFrom W.heap.size J)
    (hY : ∀ pre y W1, J pre W1 → pre.length < 7 * x.n + 1 → YieldAt Fence.wide (n - 1) Try.prog l #[.agg #[.int .i64 y.1, .string y.2]] W1 fun e W' =>
      (e = .returned (.bool true) ∧ J (pre ++ [y]) W' ∧ Below n₀ W1 W') ∨ (e = .returned (.bool false) ∧ Jx (pre ++ [y]) W'))
    (hBs : W.cell? ⟨Bs, 0, none⟩ = some (.pointer (some ⟨r, 0, none⟩))) (hB1 : Bs < n₀) (hr : RwC W r gb cb gt ct x) (hB2 : r < n₀) (hB3 : gb < n₀) (hB4 : gt < n₀) (hn0 : n₀ ≤ W.heap.size) (h0 : J [] W) :
    CallsIn Fence.wide n Try.prog 121 #[.func (.yield l) #[] #[], .pointer (some ⟨Bs, 0, none⟩)] W fun e W' => (∃ v, e = .returned v) ∧
      ((∃ ys, ys = mvsL x ∧ J ys W') ∨ (∃ pre, pre <+: mvsL x ∧ Jx pre W')) := by
  have HR := Lib.hid hr
  have hrc := hr.box.cell
  have HJ : Hid (∀ s w1 w2, J s w1 → Below w1.heap.size w1 w2 → J s w2) := fun s w1 w2 hs hb => hJ s w1 w2 none hs (grownBy_below hb none) (fun r e => by cases e)
  have HY := Lib.hid hY
  have HC : Hid (∀ w', Below n₀ W w' → w'.cell? ⟨Bs, 0, none⟩ = some (.pointer (some ⟨r, 0, none⟩))) := fun w' hb => by rw [hb.cell (p := ⟨Bs, 0, none⟩) hB1]; exact hBs
  have H0 := Lib.hid h0
  clear hr hJ hY h0
  refine callsIn_of_wp Try.func121 rfl trivial ?_ rfl
  simp only [Try.ntmps121, List.size_toArray, List.length_cons, List.length_nil, Nat.reduceAdd, Nat.reduceSub, Array.replicate_succ, Array.replicate_zero, List.push_toArray, List.append_toArray, List.nil_append, List.cons_append]
  gi_wp2
  clear hrc hBs
  gi_loopw [3, 4, 5, 6, 12] (fun _ _ _ _ i wr => ∃ k : Nat, k ≤ x.n ∧ i = .int .i64 k ∧ Hid (J (mvU x k) wr) ∧ Hid (Below n₀ W wr)) (fun _ _ _ _ i _ => x.n - (intOf i).toNat)
  case atStart => exact ⟨0, Nat.zero_le _, rfl, H0, Below.refl _ _⟩
  case round =>
    obtain ⟨k, hk, rfl, HJk, HB⟩ := hrel
    have HRk := Lib.hid (HR.out.belowN HB.out hB2 hB3 hB4)
    have hbc := HC.out _ HB.out
    have hrc := HRk.out.box.cell
    by_cases hlt : k < x.n
    · have hblk := HRk.out.bl hlt
      gi_wp2
      refine ⟨trivial, ?_⟩
      refine (callsIn_wide.2 (next_any _ _ _ _)).mono ?_
      rintro e w2 ⟨rfl, hb2⟩
      have HJ2 := Lib.hid (HJ.out _ _ _ HJk.out hb2)
      have HB2 := Lib.hid (HB.out.trans (hb2.mono (Nat.le_trans hn0 HB.out.size)))
      obtain ⟨lt, hlt7⟩ : ∃ lt, lt = nxT (stI (x.N k) (x.I k) (x.O k)) 7 := ⟨_, rfl⟩
      rw [← hlt7]
      have HLT : Hid (mvLt x k = lt) := hlt7.symm
      have hlen : lt.length ≤ 7 := by rw [hlt7]; exact nxT_len _ _
      have hsz : (⟨lt.toArray⟩ : ByteArray).size = lt.length := by simp [ByteArray.size]
      clear hlt7 hb2 hbc hrc hblk
      gi_wp2
      gi_loopw [5, 6, 25] (fun _ _ i wr => ∃ j : Nat, j ≤ lt.length ∧ i = .int .i64 j ∧ Hid (J (mvU x k ++ mvI x k j) wr) ∧ Hid (Below n₀ W wr)) (fun _ _ i _ => lt.length - (intOf i).toNat)
      case atStart => exact ⟨0, Nat.zero_le _, rfl, by rw [mvI_zero, List.append_nil]; exact HJ2, HB2⟩
      case round =>
        obtain ⟨j, hj, rfl, HJj, HBj⟩ := hrel
        have HRj := Lib.hid (HR.out.belowN HBj.out hB2 hB3 hB4)
        have hbc := HC.out _ HBj.out
        have hrc := HRj.out.box.cell
        by_cases hjt : j < lt.length
        · obtain ⟨c, hc⟩ : ∃ c, lt[j]? = some c := ⟨_, List.getElem?_eq_getElem hjt⟩
          have hex := ext_one hc
          have HCJ : Hid ((mvLt x k)[j]? = some c) := by show _ = _; rw [HLT.out]; exact hc
          clear hc
          have hpl : (mvU x k ++ mvI x k j).length < 7 * x.n + 1 := by
            rw [List.length_append]
            have h1 := mvU_len x k
            have h2 := mvI_len x k j
            omega
          have HPL := Lib.hid hpl
          clear hpl
          have HCN : Hid (Calls Try.prog 112 #[.pointer (some ⟨r, 0, none⟩), .int .i64 (2 * k)] wr fun e w' => e = .returned (.int .i64 (cntA x.T (2 * k) x.m)) ∧ wr = w') := count_any r _ gt 0 x.m ct x.T (2 * k) wr (by omega) HRj.out.box HRj.out.ic
          have hjI : (j : Int) < (lt.length : Int) := by omega
          by_cases h1 : c = 101
          · subst h1
            have t1 : ((chr 101).toList == [101]) = true := tl_some rfl
            by_cases h2 : cntA x.T (2 * k) x.m = 0
            · have HE := Lib.hid (mvI_skip HCJ.out (show mvSk x k 101 = true by simp [mvSk, h2]))
              have HZ := Lib.hid h2
              clear h2
              gi_wp2
              refine ⟨trivial, ?_⟩
              refine (callsIn_wide.2 HCN.out).mono ?_
              rintro e w3 ⟨rfl, rfl⟩
              rw [HZ.out]
              gi_wp2
              go_roundw
              case rel => exact ⟨j + 1, by omega, by go_num, by rw [HE.out]; exact HJj, HBj⟩
              case measure => simp [intOf]; omega
            · have HE := Lib.hid (mvI_yes HCJ.out (show mvSk x k 101 = false by simp [mvSk, h2]))
              have h3 : ((cntA x.T (2 * k) x.m : Int) == 0) = false := by simp; exact h2
              clear h2
              obtain ⟨fn, tmps, assign, body, hy, hR⟩ := HY.out _ ((k : Int), chr 101) wr HJj.out HPL.out
              dsimp only at hy
              gi_wp2
              refine ⟨trivial, ?_⟩
              refine (callsIn_wide.2 HCN.out).mono ?_
              rintro e w3 ⟨rfl, rfl⟩
              gi_wp2
              refine hR.mono ?_
              rintro e W3 (⟨rfl, hJ3, hk3⟩ | ⟨rfl, hJx3⟩)
              · gi_wp2
                go_roundw
                case rel => exact ⟨j + 1, by omega, by go_num, by rw [HE.out, ← List.append_assoc]; exact hJ3, HBj.out.trans hk3⟩
                case measure => simp [intOf]; omega
              · gi_wp2
                refine bodyPost_ret (results_none rfl _ _ _) rfl ?_
                exact ⟨⟨_, rfl⟩, .inr ⟨_, by rw [List.append_assoc, ← HE.out]; exact mv_pre hlt, hJx3⟩⟩
          · have t1 : ((chr c).toList == [101]) = false := tl_one (fun e => h1 (by simpa [chr] using e))
            have HE := Lib.hid (mvI_yes HCJ.out (show mvSk x k c = false by simp [mvSk, h1]))
            clear h1
            generalize chr c = s at *
            obtain ⟨fn, tmps, assign, body, hy, hR⟩ := HY.out _ ((k : Int), s) wr HJj.out HPL.out
            dsimp only at hy
            gi_wp2
            refine ⟨trivial, ?_⟩
            gi_wp2
            refine hR.mono ?_
            rintro e W3 (⟨rfl, hJ3, hk3⟩ | ⟨rfl, hJx3⟩)
            · gi_wp2
              go_roundw
              case rel => exact ⟨j + 1, by omega, by go_num, by rw [HE.out, ← List.append_assoc]; exact hJ3, HBj.out.trans hk3⟩
              case measure => simp [intOf]; omega
            · gi_wp2
              refine bodyPost_ret (results_none rfl _ _ _) rfl ?_
              exact ⟨⟨_, rfl⟩, .inr ⟨_, by rw [List.append_assoc, ← HE.out]; exact mv_pre hlt, hJx3⟩⟩
        · obtain e : j = lt.length := by omega
          subst e
          have HE : Hid (mvU x k ++ mvI x k lt.length = mvU x (k + 1)) := by
            show _ = _
            rw [mvU_succ]
            unfold mvK
            rw [HLT.out]
          gi_wp2
          go_roundw
          case rel => exact ⟨k + 1, by omega, by go_num, by rw [← HE.out]; exact HJj, HBj⟩
          case measure => simp [intOf]; omega
    · obtain e : k = x.n := by omega
      subst e
      gi_wp2
      go_end0
      exact ⟨⟨_, rfl⟩, .inl ⟨_, rfl, HJk.out⟩⟩
end Go.Proofs.Ytokddeoliieofaa
namespace Go.Proofs.Ytokddeoliieofaa
open Go.RowKit

/-- the cells of a list of moves -/
def mvC (ys : List (Int × ByteArray)) : List Value := ys.flatMap fun y => [.int .i64 y.1, .string y.2]
theorem mvC_snoc (ys : List (Int × ByteArray)) (y : Int × ByteArray) : mvC (ys ++ [y]) = mvC ys ++ [.int .i64 y.1, .string y.2] := by simp [mvC]
theorem infoMv : (Try.prog.info? 123).map (fun i => (i.zero, i.size, i.bytes)) = some (some (.agg #[.int .i64 0, .string ⟨#[]⟩]), 2, 24) := by kernel_rfl
theorem mvs_stops (n : Nat) (hn : 1 ≤ n) (Bs r gb cb gt ct : Nat) (x : Ln) (hxn : x.n ≤ 1000000) (hxm : x.m ≤ 1000000) (n₀ : Nat) (w : World) (hn0 : n₀ ≤ w.heap.size) (hBs : w.cell? ⟨Bs, 0, none⟩ = some (.pointer (some ⟨r, 0, none⟩))) (hB1 : Bs < n₀) (hr : RwC w r gb cb gt ct x) (hB2 : r < n₀) (hB3 : gb < n₀) (hB4 : gt < n₀) :
    SeqStopsK Fence.wide n Try.prog 121 #[.pointer (some ⟨Bs, 0, none⟩)] (fun y : Int × ByteArray => #[.agg #[.int .i64 y.1, .string y.2]]) (Below n₀) (fun ys => ys = mvsL x) (fun pre => pre <+: mvsL x) (7 * x.n + 1) w := fun l J Jx W hW hJ _ hY h0 => by
  refine mv1_in n hn l Bs n₀ r gb cb gt ct x hxn hxm J Jx W hJ hY ?_ hB1 (hr.below hW (Nat.le_refl _)) hB2 hB3 hB4 (Nat.le_trans hn0 hW.size) h0
  rw [hW.cell (p := ⟨Bs, 0, none⟩) (by dsimp only; omega)]
  exact hBs
theorem moves_any (p : Option Addr) (w : World) :
    Calls Try.prog 114 #[.pointer p] w fun e w' => e = .returned (.func (.func 121) #[] #[.pointer (some ⟨w.heap.size, 0, none⟩)]) ∧ w' = w.alloc (.cells #[.pointer p] 118) := by
  go_enter Try.func114, Try.ntmps114
  go_wp2_with fail
  go_ret
  exact ⟨rfl, rfl⟩
theorem cell_two_new (w : World) (u v : Value) (t : TypeId) : ∀ j z, [u, v][j]? = some z → (w.alloc (.cells #[u, v] t)).cell? ((⟨w.heap.size, 0, none⟩ : Addr).add j) = some z := by
  intro j z hj
  rw [addr_add, Nat.zero_add, box_new]
  simpa using hj
theorem bx_notrow {W : World} {b B : Nat} {t : TypeId} {cs : Array Value} {row : Option Nat} (h : Bx W b t cs) (hr : ∀ r, row = some r → B ≤ r ∧ ∃ o : Obj, W.heap[r]? = some o ∧ o.isCells = false) : row ≠ some b := fun e => by
  obtain ⟨_, o, ho, hc⟩ := hr b e
  rw [show W.heap[b]? = _ from h] at ho
  cases ho
  cases hc
attribute [local go_sem] Oper.semAt_some
end Go.Proofs.Ytokddeoliieofaa
namespace Go.Proofs.Ytokddeoliieofaa
open Go.RowKit

/-- the numbers and the letters of a list of moves -/
def mvM (ys : List (Int × ByteArray)) (i : Nat) : Int := (ys[i]?.getD (0, ⟨#[]⟩)).1
def mvS (ys : List (Int × ByteArray)) (i : Nat) : ByteArray := (ys[i]?.getD (0, ⟨#[]⟩)).2
theorem mvC_at (ys : List (Int × ByteArray)) : ∀ i, i < ys.length * 2 → (mvC ys)[i]? = some (mvF (mvM ys) (mvS ys) i) := by
  induction ys with
  | nil => intro i hi; simp at hi
  | cons y ys ih =>
    intro i hi
    have e : mvC (y :: ys) = .int .i64 y.1 :: .string y.2 :: mvC ys := by simp [mvC]
    rw [e]
    match i with
    | 0 => simp [mvF, mvM]
    | 1 => simp [mvF, mvS]
    | i + 2 =>
      have h := ih i (by simp at hi; omega)
      simp only [List.getElem?_cons_succ]
      rw [h]
      unfold mvF
      have e1 : (i + 2) % 2 = i % 2 := by omega
      have e2 : (i + 2) / 2 = i / 2 + 1 := by omega
      rw [e1, e2]
      simp [mvM, mvS]
/-- a slice of moves in new memory, or nil where there are none -/
def RowMs (z : Nat) (W : World) (v : Value) (ys : List (Int × ByteArray)) (g : Option Nat) : Prop :=
  (∃ b c, g = some b ∧ v = .slice (some ⟨b, 0, none⟩) ys.length c ∧ z ≤ b ∧ Own W b c ys.length 2 123 (mvF (mvM ys) (mvS ys))) ∨ (g = none ∧ ys = [] ∧ v = .slice none 0 0)
theorem rowMs_of {z : Nat} {W : World} {v : Value} {ys : List (Int × ByteArray)} (h : W.ownsRow z 123 2 v ys.length (mvC ys)) : ∃ g, RowMs z W v ys g := by
  rcases h.2 with ⟨rfl, h0⟩ | ⟨g, cap, cur, rfl, hz, hg, hc, hm, hs, ht⟩
  · exact ⟨none, .inr ⟨rfl, List.length_eq_zero_iff.1 h0, rfl⟩⟩
  · refine ⟨some g, .inl ⟨g, cap, rfl, rfl, hz, hc, hm, cur, hg, hs, fun i hi => ?_⟩⟩
    rw [← mvC_at ys i hi, ← ht, List.getElem?_take_of_lt hi]
    simp
/-- the moves of a line -/
def lmL (x : Ln) : List (Int × ByteArray) := if vldL x = true then mvsL x else []
end Go.Proofs.Ytokddeoliieofaa
namespace Go.Proofs.Ytokddeoliieofaa
open Go.RowKit

/-- the reference's moves of a section by its first i letters -/
def spI (x : Ln) (k i : Nat) : List (Int × ByteArray) := ((eL.take i).filter (fun c => mvOk x k (chr c))).map fun c => ((k : Int), chr c)
def spU (x : Ln) (k : Nat) : List (Int × ByteArray) := (List.range k).flatMap (fun k => spI x k 7)
def spL (x : Ln) : List (Int × ByteArray) := if vldL x = true then spU x x.n else []
theorem spU_succ (x : Ln) (k : Nat) : spU x (k + 1) = spU x k ++ spI x k 7 := by simp [spU, List.range_succ]
theorem spI_zero (x : Ln) (k : Nat) : spI x k 0 = [] := rfl
theorem spI_yes {x : Ln} {k i : Nat} {c : UInt8} (hc : eL[i]? = some c) (h : mvOk x k (chr c) = true) : spI x k (i + 1) = spI x k i ++ [((k : Int), chr c)] := by
  simp [spI, List.take_add_one, hc, h]
theorem spI_no {x : Ln} {k i : Nat} {c : UInt8} (hc : eL[i]? = some c) (h : mvOk x k (chr c) = false) : spI x k (i + 1) = spI x k i := by
  simp [spI, List.take_add_one, hc, h]
theorem spI_len (x : Ln) (k i : Nat) : (spI x k i).length ≤ i := by
  simp only [spI, List.length_map]
  exact Nat.le_trans (List.length_filter_le _ _) (by simp; omega)
theorem spU_len (x : Ln) : ∀ k, (spU x k).length ≤ 7 * k
  | 0 => by simp [spU]
  | k + 1 => by
    rw [spU_succ, List.length_append]
    have h1 := spU_len x k
    have h2 := spI_len x k 7
    omega
/-- a row of the moves ys of its own -/
def OwnMs (w : World) (g cap : Nat) (ys : List (Int × ByteArray)) : Prop := Own w g cap ys.length 2 123 (mvF (mvM ys) (mvS ys))
theorem mvM_snoc (ys : List (Int × ByteArray)) (y : Int × ByteArray) {i : Nat} (hi : i < ys.length) : mvM ys i = mvM (ys ++ [y]) i ∧ mvS ys i = mvS (ys ++ [y]) i := by
  unfold mvM mvS
  rw [List.getElem?_append_left hi]
  exact ⟨rfl, rfl⟩
theorem OwnMs.ext {w : World} {g cap : Nat} {ys : List (Int × ByteArray)} (h : OwnMs w g cap ys) (y : Int × ByteArray) : Own w g cap ys.length 2 123 (mvF (mvM (ys ++ [y])) (mvS (ys ++ [y]))) :=
  Own.congr h (mvF_congr (fun _ hk => (mvM_snoc ys y hk).1) (fun _ hk => (mvM_snoc ys y hk).2))
theorem mvF_new (ys : List (Int × ByteArray)) (y : Int × ByteArray) : ∀ j, j < 2 → [Value.int .i64 y.1, .string y.2][j]? = some (mvF (mvM (ys ++ [y])) (mvS (ys ++ [y])) (ys.length * 2 + j)) := fun j hj => by
  match j, hj with
  | 0, _ => unfold mvF; rw [if_pos (by omega), show (ys.length * 2 + 0) / 2 = ys.length by omega]; simp [mvM]
  | 1, _ => unfold mvF; rw [if_neg (by omega), show (ys.length * 2 + 1) / 2 = ys.length by omega]; simp [mvS]
end Go.Proofs.Ytokddeoliieofaa
namespace Go.Proofs.Ytokddeoliieofaa
open Go.RowKit

theorem fst_cnt (f : Nat → Int) (p : Int) : ∀ m, fstA f p m < m ↔ ¬ cntA f p m = 0
  | 0 => by simp [cntA]
  | m + 1 => by
    have ih := fst_cnt f p m
    have hle := fstA_le f p m
    simp only [fstA, cntA]
    by_cases h : fstA f p m < m
    · rw [if_pos h]
      have := ih.1 h
      omega
    · rw [if_neg h]
      have h0 : cntA f p m = 0 := Classical.byContradiction (fun q => h (ih.2 q))
      rw [h0]
      by_cases e : f m = p
      · rw [if_pos e, if_pos e]; omega
      · rw [if_neg e, if_neg e]; omega
theorem bt_chr (c : UInt8) : bt (chr c) 0 = (c.toNat : Int) := by
  have h : 0 < (chr c).size := by show 0 < 1; omega
  rw [← bt_at h]
  rfl
theorem mvJ_chr (x : Ln) (k : Nat) (c : UInt8) : mvJ x k (chr c) = nx (stI (x.N k) (x.I k) (x.O k)) (c.toNat : Int) := by
  show bsI (x.N k) (x.I k) (x.O k) (chr c) = _
  unfold bsI
  rw [if_pos (show (chr c).size = 1 from rfl), bt_chr]
theorem chr_eq (c d : UInt8) : (chr c = chr d) ↔ c = d := by
  constructor
  · intro h
    have := congrArg (fun b : ByteArray => b.data) h
    simpa [chr] using this
  · intro h; rw [h]
theorem mvOk_chr {x : Ln} (hv : vldL x = true) {k : Nat} (hk : k < x.n) (c : UInt8) : mvOk x k (chr c) = (!mvSk x k c && decide (nx (stI (x.N k) (x.I k) (x.O k)) (c.toNat : Int) < 5)) := by
  obtain ⟨_, _, _, _, _, hcn⟩ := vldL_true hv
  have hin : inB (k : Int) 0 ((x.n : Int) - 1) = true := inB_true.2 (by omega)
  unfold mvOk
  rw [hin, mvJ_chr, Bool.true_and]
  by_cases h1 : c = 101
  · subst h1
    have he : eB (chr 101) = true := decide_eq_true rfl
    have hp : plI (k : Int) (chr 101) = 2 * k := if_pos he
    rw [he, hp, Bool.true_or, Bool.not_true, Bool.false_or]
    unfold mvSk
    have hd : decide (fstA x.T (2 * (k : Int)) x.m < x.m) = !decide (cntA x.T (2 * (k : Int)) x.m = 0) := by
      by_cases h : cntA x.T (2 * (k : Int)) x.m = 0
      · rw [decide_eq_true h, decide_eq_false (fun q => (fst_cnt _ _ _).1 q h)]; rfl
      · rw [decide_eq_false h, decide_eq_true ((fst_cnt _ _ _).2 h)]; rfl
    rw [hd, decide_eq_true rfl, Bool.true_and, Bool.and_comm]
  · have he : eB (chr c) = false := decide_eq_false (fun h => h1 ((chr_eq c 101).1 h))
    have hs : mvSk x k c = false := by unfold mvSk; rw [decide_eq_false h1]; rfl
    rw [he, hs]
    by_cases h2 : c = 108
    · subst h2
      have hl : lB (chr 108) = true := decide_eq_true rfl
      have hp : plI (k : Int) (chr 108) = 2 * k + 1 := by unfold plI; rw [if_neg (by simp [he]), if_pos hl]
      rw [hl, hp]
      by_cases h5 : nx (stI (x.N k) (x.I k) (x.O k)) ((108 : UInt8).toNat : Int) < 5
      · rw [decide_eq_true h5]
        have hst : stI (x.N k) (x.I k) (x.O k) = 3 := by
          revert h5
          generalize stI (x.N k) (x.I k) (x.O k) = s
          intro h5
          match s with
          | 0 => revert h5; decide
          | 1 => revert h5; decide
          | 2 => revert h5; decide
          | 3 => rfl
          | 4 => revert h5; decide
          | s + 5 => revert h5; simp [nx]
        have hI : x.I k = true := (stI_B hst (by omega)).2.1
        have hc := hcn k hk
        unfold cnOk at hc
        rw [hI] at hc
        have hc1 : cntA x.T (2 * (k : Int) + 1) x.m = 1 := by simpa using hc
        have hf : fstA x.T (2 * (k : Int) + 1) x.m < x.m := (fst_cnt _ _ _).2 (by omega)
        rw [decide_eq_true hf]
        rfl
      · rw [decide_eq_false h5]
        rfl
    · have hl : lB (chr c) = false := decide_eq_false (fun h => h2 ((chr_eq c 108).1 h))
      rw [hl]
      simp
theorem spI_mvK {x : Ln} (hv : vldL x = true) {k : Nat} (hk : k < x.n) : spI x k 7 = mvK x k := by
  unfold spI mvK mvI mvLt nxT
  rw [List.take_length, List.filter_filter]
  congr 1
  apply List.filter_congr
  intro c _
  exact mvOk_chr hv hk c
theorem spU_mvU {x : Ln} (hv : vldL x = true) : ∀ k, k ≤ x.n → spU x k = mvU x k
  | 0, _ => by simp [spU, mvU]
  | k + 1, hk => by rw [spU_succ, mvU_succ, spU_mvU hv k (by omega), spI_mvK hv (by omega)]
theorem spL_lmL (x : Ln) : spL x = lmL x := by
  unfold spL lmL
  by_cases hv : vldL x = true
  · rw [if_pos hv, if_pos hv, spU_mvU hv x.n (Nat.le_refl _)]; rfl
  · rw [if_neg hv, if_neg hv]
theorem lmL_len (x : Ln) : (lmL x).length ≤ 35 := by
  unfold lmL
  split
  · rename_i h
    have h1 := (vldL_true h).2.1
    have h2 := mvU_len x x.n
    unfold mvsL
    omega
  · simp
end Go.Proofs.Ytokddeoliieofaa
namespace Go.Proofs.Ytokddeoliieofaa
open Go.RowKit

/-- a row of moves of its own, told by its numbers and letters; or nil -/
def RowNL (w : World) (v : Value) (q : Nat) (M : Nat → Int) (L : Nat → ByteArray) (g : Option Nat) : Prop :=
  (∃ b c, g = some b ∧ v = .slice (some ⟨b, 0, none⟩) q c ∧ Own w b c q 2 123 (mvF M L)) ∨ (g = none ∧ q = 0 ∧ v = .slice none 0 0)
theorem RowNL.below {w w' : World} {v : Value} {q : Nat} {M : Nat → Int} {L : Nat → ByteArray} {g : Option Nat} (h : RowNL w v q M L g) (hb : Below w.heap.size w w') : RowNL w' v q M L g := by
  rcases h with ⟨b, c, e, e2, h⟩ | h
  · exact .inl ⟨b, c, e, e2, h.below hb h.lt⟩
  · exact .inr h
theorem RowNL.grown {w w' : World} {v : Value} {q : Nat} {M : Nat → Int} {L : Nat → ByteArray} {g row : Option Nat} (h : RowNL w v q M L g) (hb : w.grownBy w' row) (hne : ∀ b, g = some b → row ≠ some b) : RowNL w' v q M L g := by
  rcases h with ⟨b, c, e, e2, h⟩ | h
  · exact .inl ⟨b, c, e, e2, h.kept hb (fun q => hne b e q.symm)⟩
  · exact .inr h
theorem RowNL.reads {w : World} {v : Value} {q : Nat} {M : Nat → Int} {L : Nat → ByteArray} {g : Option Nat} (h : RowNL w v q M L g) : MLs w v q M L := by
  rcases h with ⟨b, c, e, e2, h⟩ | ⟨e, e2, e3⟩
  · exact .inl ⟨b, 0, c, e2, MvsC.of_own h⟩
  · exact .inr ⟨e2, _, _, e3⟩
theorem RowNL.shape {w : World} {v : Value} {q : Nat} {M : Nat → Int} {L : Nat → ByteArray} {g : Option Nat} (h : RowNL w v q M L g) : ∃ ao c, v = .slice ao q c := h.reads.shape
theorem RowMs.row {z : Nat} {w : World} {v : Value} {ys : List (Int × ByteArray)} {g : Option Nat} (h : RowMs z w v ys g) : RowNL w v ys.length (mvM ys) (mvS ys) g ∧ (∀ c, g = some c → z ≤ c ∧ c < w.heap.size) := by
  rcases h with ⟨b, c, rfl, e2, e3, h⟩ | ⟨rfl, rfl, e2⟩
  · exact ⟨.inl ⟨b, c, rfl, e2, h⟩, fun c e => by cases e; exact ⟨e3, h.lt⟩⟩
  · exact ⟨.inr ⟨rfl, rfl, e2⟩, fun c e => by cases e⟩
end Go.Proofs.Ytokddeoliieofaa
namespace Go.Proofs.Ytokddeoliieofaa
open Go.RowKit

theorem stB_i {j : Nat} (h : j < 5) : (stB j).i = decide (j = 3) := by
  match j, h with
  | 0, _ => rfl
  | 1, _ => rfl
  | 2, _ => rfl
  | 3, _ => rfl
  | 4, _ => rfl
theorem nx_cases {s : Nat} {c : Int} (h : nx s c < 5) :
    (s = 0 ∧ c = 111 ∧ nx s c = 1) ∨ (s = 1 ∧ c = 114 ∧ nx s c = 0) ∨ (s = 1 ∧ c = 97 ∧ nx s c = 2) ∨ (s = 2 ∧ c = 99 ∧ nx s c = 0) ∨ (s = 2 ∧ c = 101 ∧ nx s c = 3) ∨ (s = 3 ∧ c = 108 ∧ nx s c = 4) ∨ (s = 4 ∧ c = 102 ∧ nx s c = 0) := by
  match s with
  | 0 => simp only [nx] at h ⊢; split at h <;> rename_i e <;> simp [e] at h ⊢
  | 1 => simp only [nx] at h ⊢
         by_cases e : c = 114
         · simp [e]
         · by_cases e2 : c = 97
           · simp [e2]
           · simp [e, e2] at h
  | 2 => simp only [nx] at h ⊢
         by_cases e : c = 99
         · simp [e]
         · by_cases e2 : c = 101
           · simp [e2]
           · simp [e, e2] at h
  | 3 => simp only [nx] at h ⊢; split at h <;> rename_i e <;> simp [e] at h ⊢
  | 4 => simp only [nx] at h ⊢; split at h <;> rename_i e <;> simp [e] at h ⊢
  | s + 5 => simp [nx] at h
theorem chr_of {l : ByteArray} (h : l.size = 1) : ∃ c, l = chr c := by
  obtain ⟨d⟩ := l
  have h1 : d.size = 1 := h
  obtain ⟨l⟩ := d
  have h2 : l.length = 1 := by simpa using h1
  match l, h2 with
  | [c], _ => exact ⟨c, rfl⟩
theorem bsI_sz {n : Int} {i o : Bool} {l : ByteArray} (h : bsI n i o l < 5) : l.size = 1 := by
  unfold bsI at h
  split at h
  · assumption
  · omega
/-- the state of a section -/
def sk (x : Ln) (k : Nat) : Nat := stI (x.N k) (x.I k) (x.O k)
theorem sk_lt {x : Ln} (hv : vldL x = true) {k : Nat} (hk : k < x.n) : sk x k < 5 := by
  have h := (vldL_true hv).2.2.2.1 k hk
  exact of_decide_eq_true h
theorem sk_I {x : Ln} (hv : vldL x = true) {k : Nat} (hk : k < x.n) : x.I k = decide (sk x k = 3) := by
  have h5 := sk_lt hv hk
  have h := (stI_B (n := x.N k) (i := x.I k) (o := x.O k) rfl h5).2.1
  rw [h]
  exact stB_i h5
theorem sk_N {x : Ln} (hv : vldL x = true) {k : Nat} (hk : k < x.n) : x.N k = (stB (sk x k)).n ∧ x.O k = (stB (sk x k)).o :=
  ⟨(stI_B rfl (sk_lt hv hk)).1, (stI_B rfl (sk_lt hv hk)).2.2⟩
/-- what a move that can be done is -/
theorem mv_is {x : Ln} {s : Int} {l : ByteArray} (ho : mvOk x s l = true) : ∃ (k : Nat) (c : UInt8), s = k ∧ k < x.n ∧ l = chr c ∧ mvJ x s l = nx (sk x k) c.toNat ∧ mvJ x s l < 5 ∧ ((eB l || lB l) = true → fstA x.T (plI s l) x.m < x.m) := by
  simp only [mvOk, Bool.and_eq_true, inB_true, decide_eq_true_eq, Bool.or_eq_true, Bool.not_eq_true'] at ho
  obtain ⟨⟨h0, h1⟩, h2, h3⟩ := ho
  obtain ⟨k, rfl⟩ := Int.eq_ofNat_of_zero_le h0
  obtain ⟨c, rfl⟩ := chr_of (bsI_sz (n := x.N k) (i := x.I k) (o := x.O k) h2)
  refine ⟨k, c, rfl, by omega, rfl, mvJ_chr x k c, h2, fun h => ?_⟩
  rcases h3 with h3 | h3
  · rw [h3] at h; cases h
  · exact h3
theorem cntA_upd_out {f : Nat → Int} (i : Nat) {v q : Int} : ∀ m, m ≤ i → cntA (upd f i v) q m = cntA f q m
  | 0, _ => rfl
  | m + 1, h => by
    simp only [cntA]
    rw [cntA_upd_out i m (by omega), show upd f i v m = f m from if_neg (show ¬ m = i by omega)]
theorem cntA_upd {f : Nat → Int} {i : Nat} {v q : Int} : ∀ m, i < m → cntA (upd f i v) q m + (if f i = q then 1 else 0) = cntA f q m + (if v = q then 1 else 0)
  | 0, h => by omega
  | m + 1, h => by
    simp only [cntA]
    by_cases e : i = m
    · subst e
      rw [cntA_upd_out i i (Nat.le_refl _), show upd f i v i = v from if_pos rfl]
      omega
    · have ih := cntA_upd (f := f) (i := i) (v := v) (q := q) m (by omega)
      rw [show upd f i v m = f m from if_neg (fun h => e h.symm)]
      omega
theorem leA_upd_out {f : Nat → Int} (i : Nat) {v q : Int} : ∀ m, m ≤ i → leA (upd f i v) q m = leA f q m
  | 0, _ => rfl
  | m + 1, h => by
    simp only [leA]
    rw [leA_upd_out i m (by omega), show upd f i v m = f m from if_neg (show ¬ m = i by omega)]
theorem leA_upd {f : Nat → Int} {i : Nat} {v q : Int} : ∀ m, i < m → leA (upd f i v) q m + (if f i ≤ q then 1 else 0) = leA f q m + (if v ≤ q then 1 else 0)
  | 0, h => by omega
  | m + 1, h => by
    simp only [leA]
    by_cases e : i = m
    · subst e
      rw [leA_upd_out i i (Nat.le_refl _), show upd f i v i = v from if_pos rfl]
      omega
    · have ih := leA_upd (f := f) (i := i) (v := v) (q := q) m (by omega)
      rw [show upd f i v m = f m from if_neg (fun h => e h.symm)]
      omega
theorem fstA_before (f : Nat → Int) (p : Int) : ∀ m j, j < fstA f p m → f j ≠ p
  | 0, j, h => by simp [fstA] at h
  | m + 1, j, h => by
    have ih := fstA_before f p m j
    have hle := fstA_le f p m
    simp only [fstA] at h
    split at h
    · exact ih h
    · rename_i hn
      have e : fstA f p m = m := by omega
      split at h
      · exact ih (by omega)
      · rename_i h2
        by_cases ej : j = m
        · rw [ej]; exact h2
        · exact ih (by omega)
theorem trOk_true {x : Ln} {i : Nat} : trOk x i = true ↔ (0 ≤ x.T i ∧ x.T i ≤ 2 * (x.n : Int)) ∧ (i = 0 ∨ x.T i ≤ x.T (i - 1)) := by
  simp [trOk, inB_true]
theorem plI_e (s : Int) : plI s (chr 101) = 2 * s := if_pos (decide_eq_true rfl)
theorem plI_l (s : Int) : plI s (chr 108) = 2 * s + 1 := by
  unfold plI
  rw [if_neg (by simp [eB, chr_eq]), if_pos (show lB (chr 108) = true from decide_eq_true rfl)]
theorem el_no {c : UInt8} (h1 : c ≠ 101) (h2 : c ≠ 108) : (eB (chr c) || lB (chr c)) = false := by
  rw [show eB (chr c) = false from decide_eq_false (fun h => h1 ((chr_eq c 101).1 h)), show lB (chr c) = false from decide_eq_false (fun h => h2 ((chr_eq c 108).1 h))]
  rfl
theorem el_e : (eB (chr 101) || lB (chr 101)) = true := by
  rw [show eB (chr 101) = true from decide_eq_true rfl]; rfl
theorem el_l : (eB (chr 108) || lB (chr 108)) = true := by
  rw [show lB (chr 108) = true from decide_eq_true rfl, Bool.or_true]
/-- a move by its kind: its section k, the state behind it J; no train turns, or train i goes from p to p + 1 -/
theorem mv_kind {x : Ln} {s : Int} {l : ByteArray} (ho : mvOk x s l = true) : ∃ k : Nat, s = k ∧ k < x.n ∧ mvJ x s l < 5 ∧
    ((mvTo x s l).T = x.T ∧ sk x k ≠ 3 ∧ mvJ x s l ≠ 3 ∨
     (∃ i, i < x.m ∧ x.T i = 2 * k ∧ (∀ j, j < i → x.T j ≠ 2 * k) ∧ (mvTo x s l).T = upd x.T i (2 * k + 1) ∧ sk x k = 2 ∧ mvJ x s l = 3) ∨
     (∃ i, i < x.m ∧ x.T i = 2 * k + 1 ∧ (∀ j, j < i → x.T j ≠ 2 * k + 1) ∧ (mvTo x s l).T = upd x.T i (2 * k + 1 + 1) ∧ sk x k = 3 ∧ mvJ x s l = 4)) := by
  obtain ⟨k, c, rfl, hk, rfl, hJ, hJ5, hf⟩ := mv_is ho
  refine ⟨k, rfl, hk, hJ5, ?_⟩
  rw [hJ] at hJ5
  have hc : ∀ d : UInt8, ((c.toNat : Nat) : Int) = (d.toNat : Int) → c = d := fun d h => UInt8.toNat_inj.1 (by omega)
  by_cases h1 : c = 101
  · subst h1
    right; left
    have hi := hf el_e
    rw [plI_e] at hi
    refine ⟨_, hi, fstA_at _ _ _ hi, fstA_before _ _ _, ?_, ?_⟩
    · unfold mvTo
      simp only [el_e, if_true, plI_e]
    · rcases nx_cases hJ5 with h | h | h | h | h | h | h <;> (obtain ⟨a, b, d⟩ := h; try (exfalso; revert b; decide))
      exact ⟨a, by rw [hJ, d]⟩
  by_cases h2 : c = 108
  · subst h2
    right; right
    have hi := hf el_l
    rw [plI_l] at hi
    refine ⟨_, hi, fstA_at _ _ _ hi, fstA_before _ _ _, ?_, ?_⟩
    · unfold mvTo
      simp only [el_l, if_true, plI_l]
    · rcases nx_cases hJ5 with h | h | h | h | h | h | h <;> (obtain ⟨a, b, d⟩ := h; try (exfalso; revert b; decide))
      exact ⟨a, by rw [hJ, d]⟩
  · left
    refine ⟨?_, ?_⟩
    · unfold mvTo
      simp only [el_no h1 h2, Bool.false_eq_true, if_false]
    · rw [hJ]
      rcases nx_cases hJ5 with h | h | h | h | h | h | h <;> obtain ⟨a, b, d⟩ := h
      · rw [a] at d ⊢; omega
      · rw [a] at d ⊢; omega
      · rw [a] at d ⊢; omega
      · rw [a] at d ⊢; omega
      · exact absurd (hc 101 b) h1
      · exact absurd (hc 108 b) h2
      · rw [a] at d ⊢; omega
end Go.Proofs.Ytokddeoliieofaa
namespace Go.Proofs.Ytokddeoliieofaa
open Go.RowKit

theorem mvTo_N (x : Ln) (k : Nat) (l : ByteArray) : (mvTo x k l).N = upd x.N k (stB (mvJ x k l)).n ∧ (mvTo x k l).I = upd x.I k (stB (mvJ x k l)).i ∧ (mvTo x k l).O = upd x.O k (stB (mvJ x k l)).o := ⟨rfl, rfl, rfl⟩
theorem sk_mv {x : Ln} {k : Nat} {l : ByteArray} (hJ : mvJ x k l < 5) (q : Nat) : sk (mvTo x k l) q = if q = k then mvJ x k l else sk x q := by
  obtain ⟨h1, h2, h3⟩ := mvTo_N x k l
  unfold sk
  rw [h1, h2, h3]
  unfold upd
  by_cases e : q = k
  · simp only [e, if_true]
    exact stI_stB hJ
  · simp only [e, if_false]
theorem I_mv {x : Ln} {k : Nat} {l : ByteArray} (hJ : mvJ x k l < 5) (q : Nat) : (mvTo x k l).I q = if q = k then decide (mvJ x k l = 3) else x.I q := by
  rw [(mvTo_N x k l).2.1]
  unfold upd
  by_cases e : q = k
  · simp only [e, if_true]
    exact stB_i hJ
  · simp only [e, if_false]
theorem cnOk_true {x : Ln} {k : Nat} : cnOk x k = true ↔ cntA x.T (2 * (k : Int) + 1) x.m = if x.I k = true then 1 else 0 := by
  simp [cnOk]
theorem vld_mv {x : Ln} {s : Int} {l : ByteArray} (hv : vldL x = true) (ho : mvOk x s l = true) : vldL (mvTo x s l) = true := by
  obtain ⟨k, rfl, hk, hJ, hkind⟩ := mv_kind ho
  obtain ⟨hn1, hn5, hm5, hpos, htr, hcn⟩ := vldL_true hv
  have hIk := sk_I hv hk
  refine vldL_of (inB_true.2 ⟨by show (1 : Int) ≤ (x.n : Int); omega, by show (x.n : Int) ≤ 5; omega⟩) hm5 ?_ ?_ ?_
  · intro q hq
    show decide (sk (mvTo x k l) q < 5) = true
    rw [sk_mv hJ]
    split
    · exact decide_eq_true hJ
    · exact decide_eq_true (sk_lt hv hq)
  · intro i hi
    have hi' : i < x.m := hi
    have h0 := trOk_true.1 (htr i hi')
    rw [trOk_true]
    show (0 ≤ (mvTo x k l).T i ∧ (mvTo x k l).T i ≤ 2 * (x.n : Int)) ∧ (i = 0 ∨ (mvTo x k l).T i ≤ (mvTo x k l).T (i - 1))
    rcases hkind with ⟨hT, _⟩ | ⟨j, hj, hTj, hb, hT, _⟩ | ⟨j, hj, hTj, hb, hT, _⟩
    · rw [hT]; exact h0
    · rw [hT]
      unfold upd
      by_cases e : i = j
      · subst e
        rw [if_pos rfl]
        refine ⟨by omega, ?_⟩
        rcases Nat.eq_zero_or_pos i with z | z
        · exact .inl z
        · right
          rw [if_neg (by omega)]
          have h1 := hb (i - 1) (by omega)
          have h2 := h0.2
          omega
      · rw [if_neg e]
        refine ⟨h0.1, ?_⟩
        rcases h0.2 with z | z
        · exact .inl z
        · right
          split
          · rename_i e2
            rw [e2, hTj] at z
            omega
          · exact z
    · rw [hT]
      unfold upd
      by_cases e : i = j
      · subst e
        rw [if_pos rfl]
        refine ⟨by omega, ?_⟩
        rcases Nat.eq_zero_or_pos i with z | z
        · exact .inl z
        · right
          rw [if_neg (by omega)]
          have h1 := hb (i - 1) (by omega)
          have h2 := h0.2
          omega
      · rw [if_neg e]
        refine ⟨h0.1, ?_⟩
        rcases h0.2 with z | z
        · exact .inl z
        · right
          split
          · rename_i e2
            rw [e2, hTj] at z
            omega
          · exact z
  · intro q hq
    have hq' : q < x.n := hq
    have h0 := cnOk_true.1 (hcn q hq')
    rw [cnOk_true, I_mv hJ]
    show cntA (mvTo x k l).T (2 * (q : Int) + 1) x.m = _
    rcases hkind with ⟨hT, hs3, hJ3⟩ | ⟨j, hj, hTj, hb, hT, hs, hJe⟩ | ⟨j, hj, hTj, hb, hT, hs, hJe⟩
    · rw [hT, h0]
      by_cases e : q = k
      · subst e
        rw [hIk, if_pos rfl]
        simp [hs3, hJ3]
      · rw [if_neg e]
    · rw [hT]
      have hu := cntA_upd (f := x.T) (v := 2 * (k : Int) + 1) (q := 2 * (q : Int) + 1) x.m hj
      rw [hTj, if_neg (show ¬ 2 * (k : Int) = 2 * (q : Int) + 1 by omega), h0] at hu
      by_cases e : q = k
      · subst e
        rw [hIk] at hu
        rw [if_pos rfl]
        simp [hs, hJe] at hu ⊢
        omega
      · rw [if_neg e]
        rw [if_neg (show ¬ 2 * (k : Int) + 1 = 2 * (q : Int) + 1 by omega)] at hu
        omega
    · rw [hT]
      have hu := cntA_upd (f := x.T) (v := 2 * (k : Int) + 1 + 1) (q := 2 * (q : Int) + 1) x.m hj
      rw [hTj, h0] at hu
      by_cases e : q = k
      · subst e
        rw [hIk, if_neg (show ¬ 2 * (q : Int) + 1 + 1 = 2 * (q : Int) + 1 by omega)] at hu
        rw [if_pos rfl]
        simp [hs, hJe] at hu ⊢
        omega
      · rw [if_neg e]
        rw [if_neg (show ¬ 2 * (k : Int) + 1 = 2 * (q : Int) + 1 by omega), if_neg (show ¬ 2 * (k : Int) + 1 + 1 = 2 * (q : Int) + 1 by omega)] at hu
        omega
/-- the moves that a section in a state still needs, so many trains not yet through -/
def lefK (s t : Nat) : Int :=
  match s with
  | 0 => 5 * t
  | 1 => if 0 < t then 5 * t - 1 else 1
  | 2 => if 0 < t then 5 * t - 2 else 1
  | 3 => 5 * t + 2
  | _ => 5 * t + 1
theorem lefV_stB {j : Nat} (h : j < 5) (t : Nat) : lefV (stB j).n (stB j).i (stB j).o t = lefK j t := by
  match j, h with
  | 0, _ => simp [lefV, stB, lefK]
  | 1, _ => by_cases h : 0 < t
            · simp [lefV, stB, lefK, h]
            · obtain rfl : t = 0 := by omega
              simp [lefV, stB, lefK]
  | 2, _ => by_cases h : 0 < t
            · simp [lefV, stB, lefK, h]
            · obtain rfl : t = 0 := by omega
              simp [lefV, stB, lefK]
  | 3, _ => simp [lefV, stB, lefK]
  | 4, _ => simp [lefV, stB, lefK]
/-- the trains that have not yet come into a section -/
def tk (x : Ln) (k : Nat) : Nat := leA x.T (2 * k) x.m
theorem lef_sk {x : Ln} (hv : vldL x = true) {k : Nat} (hk : k < x.n) : lefV (x.N k) (x.I k) (x.O k) (leA x.T (2 * k) x.m) = lefK (sk x k) (tk x k) := by
  have h5 := sk_lt hv hk
  obtain ⟨h1, h2, h3⟩ := stI_B (n := x.N k) (i := x.I k) (o := x.O k) rfl h5
  rw [← lefV_stB h5]
  show lefV _ _ _ _ = lefV (stB (stI (x.N k) (x.I k) (x.O k))).n (stB (stI (x.N k) (x.I k) (x.O k))).i (stB (stI (x.N k) (x.I k) (x.O k))).o _
  rw [← h1, ← h2, ← h3]
  rfl
def lefT (x : Ln) : Nat → Int
  | 0 => 0
  | k + 1 => lefT x k + lefK (sk x k) (tk x k)
theorem lefS_T {x : Ln} (hv : vldL x = true) : ∀ k, k ≤ x.n → lefS x k = lefT x k
  | 0, _ => rfl
  | k + 1, h => by
    simp only [lefS, lefT]
    rw [lefS_T hv k (by omega), lef_sk hv (by omega)]
theorem lefK_pos (s t : Nat) : 0 ≤ lefK s t := by
  unfold lefK
  split <;> (try split) <;> omega
theorem tk_mv {x : Ln} {k i : Nat} {l : ByteArray} {p : Int} (hi : i < x.m) (hp : x.T i = p) (hT : (mvTo x k l).T = upd x.T i (p + 1)) (q : Nat) : tk (mvTo x k l) q + (if p = 2 * q then 1 else 0) = tk x q := by
  unfold tk
  rw [hT]
  show leA (upd x.T i (p + 1)) (2 * (q : Int)) x.m + _ = _
  have h := leA_upd (f := x.T) (v := p + 1) (q := 2 * (q : Int)) x.m hi
  rw [hp] at h
  by_cases e : p = 2 * (q : Int)
  · rw [if_pos e]
    rw [if_pos (by omega), if_neg (by omega)] at h
    omega
  · rw [if_neg e]
    by_cases e2 : p ≤ 2 * (q : Int)
    · rw [if_pos e2, if_pos (by omega)] at h
      omega
    · rw [if_neg e2, if_neg (by omega)] at h
      omega
end Go.Proofs.Ytokddeoliieofaa
namespace Go.Proofs.Ytokddeoliieofaa
open Go.RowKit

theorem lefT_one {x y : Ln} {k : Nat} : ∀ n, k < n → (∀ q, q < n → q ≠ k → lefK (sk y q) (tk y q) = lefK (sk x q) (tk x q)) → lefT y n + lefK (sk x k) (tk x k) = lefT x n + lefK (sk y k) (tk y k)
  | 0, h, _ => by omega
  | n + 1, h, hq => by
    simp only [lefT]
    by_cases e : k = n
    · subst e
      have hs : ∀ m, m ≤ k → lefT y m = lefT x m := by
        intro m
        induction m with
        | zero => intro _; rfl
        | succ m ih =>
          intro hm
          simp only [lefT]
          rw [ih (by omega), hq m (by omega) (by omega)]
      rw [hs k (Nat.le_refl _)]
      omega
    · have ih := lefT_one (x := x) (y := y) (k := k) n (by omega) (fun q h1 h2 => hq q (by omega) h2)
      have h1 := hq n (by omega) (fun h => e h.symm)
      omega
/-- what a move does to the moves that are left -/
theorem lefT_mv {x : Ln} {k : Nat} {l : ByteArray} (ho : mvOk x k l = true) (hk : k < x.n) : lefT (mvTo x k l) x.n + lefK (sk x k) (tk x k) = lefT x x.n + lefK (mvJ x k l) (tk (mvTo x k l) k) ∧ (tk (mvTo x k l) k = tk x k ∧ ¬ (sk x k = 2 ∧ mvJ x k l = 3) ∨ tk (mvTo x k l) k + 1 = tk x k ∧ sk x k = 2 ∧ mvJ x k l = 3) := by
  obtain ⟨k', e, _, hJ, hkind⟩ := mv_kind ho
  obtain rfl : k = k' := by omega
  have hsk : sk (mvTo x k l) k = mvJ x k l := by rw [sk_mv hJ, if_pos rfl]
  have hT : ∀ q, q ≠ k → tk (mvTo x k l) q = tk x q := by
    intro q hq
    rcases hkind with ⟨hT, _⟩ | ⟨i, hi, hp, _, hT, _⟩ | ⟨i, hi, hp, _, hT, _⟩
    · unfold tk; rw [hT]; rfl
    · have h := tk_mv hi hp hT q
      rw [if_neg (by omega)] at h
      omega
    · have h := tk_mv hi hp hT q
      rw [if_neg (by omega)] at h
      omega
  constructor
  · rw [← hsk]
    refine lefT_one x.n hk (fun q h1 h2 => ?_)
    rw [sk_mv hJ, if_neg h2, hT q h2]
  · rcases hkind with ⟨hT, h3, h4⟩ | ⟨i, hi, hp, _, hT, h3, h4⟩ | ⟨i, hi, hp, _, hT, h3, h4⟩
    · left
      exact ⟨by unfold tk; rw [hT]; rfl, fun h => h4 h.2⟩
    · right
      have h := tk_mv hi hp hT k
      rw [if_pos rfl] at h
      exact ⟨h, h3, h4⟩
    · left
      have h := tk_mv hi hp hT k
      rw [if_neg (by omega)] at h
      exact ⟨by omega, fun h => by omega⟩
theorem mem_mvs {x : Ln} {k : Nat} {c : UInt8} (hk : k < x.n) (hc : c ∈ eL) (hn : nx (sk x k) c.toNat < 5) (hs : mvSk x k c = false) : ((k : Int), chr c) ∈ mvsL x := by
  unfold mvsL mvU
  rw [List.mem_flatMap]
  refine ⟨k, List.mem_range.2 hk, ?_⟩
  unfold mvK mvI
  rw [List.mem_map]
  refine ⟨c, ?_, rfl⟩
  rw [List.mem_filter]
  refine ⟨?_, by rw [hs]; rfl⟩
  rw [List.take_length]
  unfold mvLt nxT
  rw [List.mem_filter]
  exact ⟨by simpa [eL] using hc, decide_eq_true hn⟩
theorem leA_ex {f : Nat → Int} {q : Int} : ∀ m, 0 < leA f q m → ∃ i, i < m ∧ f i ≤ q
  | 0, h => by simp [leA] at h
  | m + 1, h => by
    simp only [leA] at h
    by_cases e : f m ≤ q
    · exact ⟨m, by omega, e⟩
    · rw [if_neg e] at h
      obtain ⟨i, h1, h2⟩ := leA_ex m h
      exact ⟨i, by omega, h2⟩
theorem leA_pos {f : Nat → Int} {q : Int} {i : Nat} (hf : f i ≤ q) : ∀ m, i < m → 0 < leA f q m
  | 0, h => by omega
  | m + 1, h => by
    simp only [leA]
    by_cases e : i = m
    · subst e; rw [if_pos hf]; omega
    · have := leA_pos hf m (by omega); omega
theorem cntA_pos {f : Nat → Int} {p : Int} {i : Nat} (hf : f i = p) : ∀ m, i < m → 0 < cntA f p m
  | 0, h => by omega
  | m + 1, h => by
    simp only [cntA]
    by_cases e : i = m
    · subst e; rw [if_pos hf]; omega
    · have := cntA_pos hf m (by omega); omega
theorem lefK_t {s t : Nat} (ht : 0 < t) : 0 < lefK s t := by
  unfold lefK
  split
  · omega
  · rw [if_pos ht]; omega
  · rw [if_pos ht]; omega
  · omega
  · omega
theorem lefT_ex {x : Ln} : ∀ n, 0 < lefT x n → ∃ k, k < n ∧ 0 < lefK (sk x k) (tk x k)
  | 0, h => by simp [lefT] at h
  | n + 1, h => by
    simp only [lefT] at h
    by_cases e : 0 < lefK (sk x n) (tk x n)
    · exact ⟨n, by omega, e⟩
    · have h1 := lefK_pos (sk x n) (tk x n)
      obtain ⟨k, h2, h3⟩ := lefT_ex (x := x) n (by omega)
      exact ⟨k, by omega, h3⟩
/-- a section that can go on -/
theorem sec_ex {x : Ln} (hv : vldL x = true) : ∀ k, k < x.n → 0 < lefK (sk x k) (tk x k) → ∃ q, q < x.n ∧ 0 < lefK (sk x q) (tk x q) ∧ (sk x q ≠ 2 ∨ tk x q = 0 ∨ 0 < cntA x.T (2 * (q : Int)) x.m) := by
  intro k
  induction k using Nat.strongRecOn with
  | ind k ih =>
    intro hk hl
    by_cases h1 : sk x k ≠ 2
    · exact ⟨k, hk, hl, .inl h1⟩
    by_cases h2 : tk x k = 0
    · exact ⟨k, hk, hl, .inr (.inl h2)⟩
    by_cases h3 : 0 < cntA x.T (2 * (k : Int)) x.m
    · exact ⟨k, hk, hl, .inr (.inr h3)⟩
    obtain ⟨i, hi, hle⟩ := leA_ex (f := x.T) (q := 2 * (k : Int)) x.m (by unfold tk at h2; omega)
    have hne : x.T i ≠ 2 * (k : Int) := fun e => h3 (cntA_pos e x.m hi)
    have htr := (trOk_true.1 ((vldL_true hv).2.2.2.2.1 i hi)).1.1
    obtain ⟨p, hp⟩ := Int.eq_ofNat_of_zero_le htr
    have hjk : p / 2 < k := by omega
    refine ih (p / 2) hjk (by omega) ?_
    by_cases ho : p % 2 = 0
    · refine lefK_t ?_
      exact leA_pos (f := x.T) (q := 2 * ((p / 2 : Nat) : Int)) (i := i) (by omega) x.m hi
    · have hc := cntA_pos (f := x.T) (p := 2 * ((p / 2 : Nat) : Int) + 1) (i := i) (by omega) x.m hi
      have hcn := cnOk_true.1 ((vldL_true hv).2.2.2.2.2 (p / 2) (by omega))
      rw [sk_I hv (by omega)] at hcn
      by_cases h4 : sk x (p / 2) = 3
      · rw [h4]
        show 0 < 5 * (tk x (p / 2) : Int) + 2
        omega
      · rw [decide_eq_false h4, if_neg (by simp)] at hcn
        omega
theorem near_at {x : Ln} (hv : vldL x = true) {k : Nat} (hk : k < x.n) (c : UInt8) (hc : c ∈ eL) {J : Nat} (hn : nx (sk x k) c.toNat = J) (hJ : J < 5) (hs : mvSk x k c = false)
    (hl : ∀ t', (t' = tk x k ∧ ¬ (sk x k = 2 ∧ J = 3) ∨ t' + 1 = tk x k ∧ sk x k = 2 ∧ J = 3) → lefK J t' < lefK (sk x k) (tk x k)) :
    ∃ y, y ∈ mvsL x ∧ mvOk x y.1 y.2 = true ∧ lefS (mvTo x y.1 y.2) x.n < lefS x x.n := by
  have ho : mvOk x k (chr c) = true := by
    rw [mvOk_chr hv hk, hs]
    show (true && decide (nx (sk x k) (c.toNat : Int) < 5)) = true
    rw [decide_eq_true (by omega)]
    rfl
  have hJe : mvJ x k (chr c) = J := by rw [mvJ_chr]; exact hn
  refine ⟨((k : Int), chr c), mem_mvs hk hc (by omega) hs, ho, ?_⟩
  have h := lefT_mv ho hk
  rw [hJe] at h
  have h2 := hl _ h.2
  have e1 := lefS_T hv x.n (Nat.le_refl _)
  have e2 : lefS (mvTo x k (chr c)) x.n = lefT (mvTo x k (chr c)) x.n := lefS_T (vld_mv hv ho) x.n (Nat.le_refl _)
  show lefS (mvTo x k (chr c)) x.n < _
  rw [e1, e2]
  omega
/-- while moves are left, some move leaves fewer -/
theorem near_ex {x : Ln} (hv : vldL x = true) (h0 : 0 < lefS x x.n) : ∃ y, y ∈ mvsL x ∧ mvOk x y.1 y.2 = true ∧ lefS (mvTo x y.1 y.2) x.n < lefS x x.n := by
  rw [lefS_T hv x.n (Nat.le_refl _)] at h0
  obtain ⟨k0, hk0, hl0⟩ := lefT_ex x.n h0
  obtain ⟨k, hk, hl, hgo⟩ := sec_ex hv k0 hk0 hl0
  have h5 := sk_lt hv hk
  have hsc : ∀ c : UInt8, c ≠ 101 → mvSk x k c = false := fun c h => by unfold mvSk; rw [decide_eq_false h]; rfl
  have hs5 : sk x k = 0 ∨ sk x k = 1 ∨ sk x k = 2 ∨ sk x k = 3 ∨ sk x k = 4 := by omega
  rcases hs5 with e | e | e | e | e
  · rw [e] at hl
    have ht : 0 < tk x k := by
      have : (0 : Int) < 5 * (tk x k : Int) := hl
      omega
    refine near_at hv hk 111 (by decide) (J := 1) (by rw [e]; rfl) (by omega) (hsc _ (by decide)) (fun t' h => ?_)
    rw [e]
    rcases h with ⟨rfl, _⟩ | ⟨_, h, _⟩
    · simp only [lefK, if_pos ht]; omega
    · omega
  · by_cases ht : 0 < tk x k
    · refine near_at hv hk 97 (by decide) (J := 2) (by rw [e]; rfl) (by omega) (hsc _ (by decide)) (fun t' h => ?_)
      rw [e]
      rcases h with ⟨rfl, _⟩ | ⟨_, h, _⟩
      · simp only [lefK, if_pos ht]; omega
      · omega
    · refine near_at hv hk 114 (by decide) (J := 0) (by rw [e]; rfl) (by omega) (hsc _ (by decide)) (fun t' h => ?_)
      rw [e]
      rcases h with ⟨rfl, _⟩ | ⟨_, h, _⟩
      · simp only [lefK, if_neg ht]; omega
      · omega
  · by_cases ht : 0 < tk x k
    · have hc : 0 < cntA x.T (2 * (k : Int)) x.m := by
        rcases hgo with h | h | h
        · exact absurd e h
        · omega
        · exact h
      refine near_at hv hk 101 (by decide) (J := 3) (by rw [e]; rfl) (by omega) (by unfold mvSk; rw [decide_eq_false (show ¬ cntA x.T (2 * (k : Int)) x.m = 0 by omega), Bool.and_false]) (fun t' h => ?_)
      rw [e]
      rcases h with ⟨_, h⟩ | ⟨h, _, _⟩
      · exact absurd ⟨e, rfl⟩ h
      · simp only [lefK, if_pos ht]; omega
    · refine near_at hv hk 99 (by decide) (J := 0) (by rw [e]; rfl) (by omega) (hsc _ (by decide)) (fun t' h => ?_)
      rw [e]
      rcases h with ⟨rfl, _⟩ | ⟨_, _, h⟩
      · simp only [lefK, if_neg ht]; omega
      · omega
  · refine near_at hv hk 108 (by decide) (J := 4) (by rw [e]; rfl) (by omega) (hsc _ (by decide)) (fun t' h => ?_)
    rw [e]
    rcases h with ⟨rfl, _⟩ | ⟨_, h, _⟩
    · simp only [lefK]; omega
    · omega
  · refine near_at hv hk 102 (by decide) (J := 0) (by rw [e]; rfl) (by omega) (hsc _ (by decide)) (fun t' h => ?_)
    rw [e]
    rcases h with ⟨rfl, _⟩ | ⟨_, h, _⟩
    · simp only [lefK]; omega
    · omega
end Go.Proofs.Ytokddeoliieofaa
namespace Go.Proofs.Ytokddeoliieofaa
open Go.RowKit

theorem oper_round {P : Program} {o : Oper} {a : Act} {w : World} {K : Act → World → Prop} {Q : Exit → Act → World → Prop} (l n : Nat) (hnd : ∀ c, o.op ≠ .defer c) (h : o.wp P a w K Q) : o.wpIn (Fence.wide.inRound l) n P a w K Q := by
  refine ⟨fun _ _ => trivial, ?_⟩
  unfold Oper.wp at h
  rw [Oper.semAt_eq _ _ _ hnd]
  generalize (execOp a.eval o).run P w = r at *
  cases r with
  | ok x w' =>
    cases x with
    | value v => exact h
    | skip => exact h
    | defer d => exact h
    | enter f args => exact ⟨(fun hd => by cases hd), CallsIn.inRound l (callsIn_wide.2 h)⟩
    | row row args =>
      refine ⟨(fun hd => by cases hd), fun c cs _ => ?_⟩
      obtain ⟨v, w'', h1, h2⟩ := h c cs
      exact ⟨v, w'', h1, stepsIn_wide.2 h2⟩
    | _ => exact h.elim
  | halt x w' =>
    cases x <;> first | exact h | exact h.elim
theorem any_round {P : Program} {md : Region.Mode} {ops : Array Oper} {Q : Exit → Act → World → Prop} (l n : Nat) (hnd : ∀ (i : Nat) (o : Oper), ops[i]? = some o → ∀ c, o.op ≠ .defer c) (hlo : ¬ LetsOut Q) :
    ∀ (fuel : Nat) (listed : Array Bool) (a : Act) (w : World), wpAny P md ops Q fuel listed a w → wpAnyIn (Fence.wide.inRound l) n P md ops Q fuel listed a w
  | 0, listed, a, w, h => h
  | fuel + 1, listed, a, w, h => by
    refine ⟨h.1, fun i hi => ?_⟩
    have h2 := h.2 i hi
    unfold wpOp at h2
    unfold wpOpIn
    cases ho : ops[i]? with
    | none => rw [ho] at h2; exact any_round l n hnd hlo fuel _ _ _ h2
    | some o =>
      rw [ho] at h2
      dsimp only at h2 ⊢
      by_cases hw : Region.wanted o (yielded ops a.tmps) = true
      · rw [if_pos hw] at h2 ⊢
        rcases h2 with h2 | ⟨_, h2⟩
        · exact Oper.wpIn_mono (fun a w h => any_round l n hnd hlo fuel _ _ _ h) (oper_round l n (hnd i o ho) h2)
        · exact absurd h2 hlo
      · rw [if_neg hw] at h2 ⊢
        exact ⟨fun _ _ => trivial, any_round l n hnd hlo fuel _ _ _ h2⟩
/-- no operation defers a call -/
def noDefer (ops : Array Oper) : Bool := ops.all fun o => match o.op with | .defer _ => false | _ => true
theorem noDefer_spec {ops : Array Oper} (h : noDefer ops = true) : ∀ (i : Nat) (o : Oper), ops[i]? = some o → ∀ c, o.op ≠ .defer c := by
  intro i o ho c e
  unfold noDefer at h
  rw [Array.all_eq_true] at h
  obtain ⟨hi, he⟩ := Array.getElem?_eq_some_iff.1 ho
  have := h i hi
  rw [he, e] at this
  cases this
theorem region_round {P : Program} {ops : Array Oper} {Q : Exit → Act → World → Prop} {S : World → Prop} {id l n : Nat} {a : Act} {w : World} (hm : P.follows .mixedOrders = true) (hnd : noDefer ops = true) (hlo : ¬ LetsOut Q)
    (hS : S w.drew) (h : S w.drew → wpAnyH P .any ops Q S ops.size (Array.replicate ops.size false) a w.drew) : (Code.region id ops true).wpIn (Fence.wide.inRound l) n P Q a w :=
  wpIn_region_any hm (any_round l n (noDefer_spec hnd) hlo _ _ _ _ (wpAny_of_held _ _ _ _ (h hS)))
end Go.Proofs.Ytokddeoliieofaa
namespace Go.Proofs.Ytokddeoliieofaa
open Go.RowKit

/-- a move that leaves fewer moves -/
def nrB (x : Ln) (y : Int × ByteArray) : Bool := mvOk x y.1 y.2 && decide (lefS (mvTo x y.1 y.2) x.n < lefS x x.n)
def nearM (x : Ln) : Option (Int × ByteArray) := (mvsL x).find? (nrB x)
theorem nearM_some {x : Ln} (hv : vldL x = true) (h0 : 0 < lefS x x.n) : ∃ y, nearM x = some y ∧ nrB x y = true := by
  obtain ⟨y, hy, ho, hl⟩ := near_ex hv h0
  have hb : nrB x y = true := by unfold nrB; rw [ho, decide_eq_true hl]; rfl
  cases e : nearM x with
  | none =>
    have := List.find?_eq_none.1 e y hy
    exact absurd hb this
  | some z => exact ⟨z, rfl, List.find?_some e⟩
theorem near_first {x : Ln} {pre : List (Int × ByteArray)} {y : Int × ByteArray} (hp : pre ++ [y] <+: mvsL x) (h1 : ∀ z, z ∈ pre → nrB x z = false) (h2 : nrB x y = true) : nearM x = some y := by
  obtain ⟨t, ht⟩ := hp
  unfold nearM
  rw [← ht, List.append_assoc, List.find?_append]
  rw [List.find?_eq_none.2 (fun z hz => by rw [h1 z hz]; simp)]
  simp [h2]
/-- the boxes of nextNearer -/
structure NnM (w wr : World) (r : Nat) : Prop where
  b1 : Bx wr w.heap.size 118 #[.pointer (some ⟨r, 0, none⟩)]
  b2 : Bx wr (w.heap.size + 1) 118 #[.pointer none]
  b3 : Bx wr (w.heap.size + 1 + 1) 123 #[.int .i64 0, .string ⟨#[]⟩]
  b4 : Bx wr (w.heap.size + 1 + 1 + 1) 4 #[.bool false]
  bl : Below w.heap.size w wr
theorem NnM.below {w wr w' : World} {r : Nat} (h : NnM w wr r) (hb : Below wr.heap.size wr w') : NnM w w' r :=
  ⟨h.b1.below hb h.b1.lt, h.b2.below hb h.b2.lt, h.b3.below hb h.b3.lt, h.b4.below hb h.b4.lt, h.bl.trans (hb.mono h.bl.size)⟩
/-- between two rounds of nextNearer's loop -/
structure NnI (w w3 : World) (r B5 : Nat) (x : Ln) (pre : List (Int × ByteArray)) (W : World) : Prop where
  no : ∀ z, z ∈ pre → nrB x z = false
  nn : NnM w W r
  lf : Bx W B5 3 #[.int .i64 (lefS x x.n)]
  bl : Below w3.heap.size w3 W
theorem NnI.below {w w3 W W' : World} {r B5 : Nat} {x : Ln} {pre : List (Int × ByteArray)} (h : NnI w w3 r B5 x pre W) (hb : Below W.heap.size W W') : NnI w w3 r B5 x pre W' :=
  ⟨h.no, h.nn.below hb, h.lf.below hb h.lf.lt, h.bl.trans (hb.mono h.bl.size)⟩
theorem NnI.next {w w3 W W' : World} {r B5 : Nat} {x : Ln} {pre : List (Int × ByteArray)} {y : Int × ByteArray} (h : NnI w w3 r B5 x pre W) (hb : Below W.heap.size W W') (hy : nrB x y = false) : NnI w w3 r B5 x (pre ++ [y]) W' := by
  have h2 := h.below hb
  exact ⟨fun z hz => by
    rcases List.mem_append.1 hz with hz | hz
    · exact h.no z hz
    · rw [List.mem_singleton.1 hz]; exact hy, h2.nn, h2.lf, h2.bl⟩
theorem keepsFrom_below {W W' : World} (hb : Below W.heap.size W W') (B : Nat) : KeepsFrom B W W' := (KeepsOthers.of_grownBy (grownBy_below hb none) (fun j o e _ => by cases e)).from _
/-- a round of nextNearer's loop has found a move -/
def NnX (w _w3 : World) (x : Ln) (c : Code) (pre : List (Int × ByteArray)) (W : World) : Prop :=
  c = .ret ∧ ∃ y s pre', pre = pre' ++ [y] ∧ (∀ z, z ∈ pre' → nrB x z = false) ∧ nrB x y = true ∧ Bx W (w.heap.size + 1) 118 #[s] ∧ Bx W (w.heap.size + 1 + 1) 123 #[.int .i64 y.1, .string y.2] ∧ Bx W (w.heap.size + 1 + 1 + 1) 4 #[.bool true] ∧ RwN w.heap.size W s (mvTo x y.1 y.2) ∧ Below w.heap.size w W
theorem RwC.setO {w : World} {r gb cb gt ct : Nat} {x : Ln} (h : RwC w r gb cb gt ct x) {b o : Nat} (h1 : b ≠ r) (h2 : b ≠ gb) (h3 : b ≠ gt) (u : Value) : RwC (w.setCell ⟨b, o, none⟩ u) r gb cb gt ct x :=
  ⟨h.box.setOther (fun e => h1 e.symm) _, h.bs.setOther (fun e => h2 e.symm) _, h.ts.setOther (fun e => h3 e.symm) _, h.d1, h.d2, h.d3⟩
theorem bx_put {V : World} {b D : Nat} {t : TypeId} {cs : Array Value} {o : Obj} (h : Bx V b t cs) (hD : V.heap[D]? = some o) (ho : o.isCells = false) (o' : Obj) : Bx (V.putObj D o') b t cs :=
  h.of_block ((grownBy_putObj' V D o').block b h.lt (fun e => by
    cases e
    rw [show V.heap[b]? = _ from h] at hD
    cases hD
    cases ho))
theorem own_put {V : World} {g cap n s D : Nat} {t : TypeId} {f : Nat → Value} {o : Obj} (h : Own V g cap n s t f) (hD : V.heap[D]? = some o) (ho : o.isCells = false) (o' : Obj) : Own (V.putObj D o') g cap n s t f := by
  have h0 := h
  obtain ⟨_, _, cur, hg, _⟩ := h0
  refine h.of_block ((grownBy_putObj' V D o').block g h.lt (fun e => ?_))
  cases e
  rw [hg] at hD
  cases hD
  cases ho
theorem own_notrow {W : World} {g cap n s B : Nat} {t : TypeId} {f : Nat → Value} {row : Option Nat} (h : Own W g cap n s t f) (hr : ∀ r, row = some r → B ≤ r ∧ ∃ o : Obj, W.heap[r]? = some o ∧ o.isCells = false) : row ≠ some g := fun e => by
  obtain ⟨_, o, ho, hc⟩ := hr g e
  obtain ⟨_, _, cur, hg, _⟩ := h
  rw [hg] at ho
  cases ho
  cases hc
theorem below_gr {B R : Nat} {w0 w w' : World} {row : Option Nat} (h : Below B w0 w) (hg : w.grownBy w' row) (hr : ∀ c, row = some c → R ≤ c ∧ ∃ o : Obj, w.heap[c]? = some o ∧ o.isCells = false) (hR : B ≤ R) (hB : B ≤ w0.heap.size) : Below B w0 w' := by
  refine h.trans ⟨hg.os, hg.tape, hg.output, hg.size, fun k hk => hg.block k (Nat.lt_of_lt_of_le hk (Nat.le_trans hB h.size)) (fun e => ?_)⟩
  have := (hr k e.symm).1
  omega
theorem Bx.gr {W W' : World} {b B : Nat} {t : TypeId} {cs : Array Value} {row : Option Nat} (h : Bx W b t cs) (hg : W.grownBy W' row) (hr : ∀ r, row = some r → B ≤ r ∧ ∃ o : Obj, W.heap[r]? = some o ∧ o.isCells = false) : Bx W' b t cs := h.of_block (hg.block b h.lt (fun e => bx_notrow h hr e.symm))
theorem Own.gr {W W' : World} {g cap n s B : Nat} {t : TypeId} {f : Nat → Value} {row : Option Nat} (h : Own W g cap n s t f) (hg : W.grownBy W' row) (hr : ∀ r, row = some r → B ≤ r ∧ ∃ o : Obj, W.heap[r]? = some o ∧ o.isCells = false) : Own W' g cap n s t f := h.of_block (hg.block g h.lt (fun e => own_notrow h hr e.symm))
theorem NnM.gr {w wr w' : World} {r B : Nat} {row : Option Nat} (h : NnM w wr r) (hg : wr.grownBy w' row) (hr : ∀ c, row = some c → B ≤ c ∧ ∃ o : Obj, wr.heap[c]? = some o ∧ o.isCells = false) (hB : w.heap.size ≤ B) : NnM w w' r :=
  ⟨h.b1.gr hg hr, h.b2.gr hg hr, h.b3.gr hg hr, h.b4.gr hg hr, below_gr h.bl hg hr hB (Nat.le_refl _)⟩
theorem RwC.gr {w w' : World} {r gb cb gt ct B : Nat} {x : Ln} {row : Option Nat} (h : RwC w r gb cb gt ct x) (hg : w.grownBy w' row) (hr : ∀ c, row = some c → B ≤ c ∧ ∃ o : Obj, w.heap[c]? = some o ∧ o.isCells = false) : RwC w' r gb cb gt ct x :=
  ⟨h.box.gr hg hr, h.bs.gr hg hr, h.ts.gr hg hr, h.d1, h.d2, h.d3⟩
theorem KeepsFrom.of_drew (W : World) (B : Nat) : KeepsFrom B W W.drew := keepsFrom_below (Below.refl _ W).drew B
attribute [local go_sem] Oper.semAt_some
set_option linter.unusedSimpArgs false in
set_option maxRecDepth 100000 in
set_option maxHeartbeats 4000000 in
theorem nextNearer_in (n : Nat) (hn : 6 ≤ n) (r gb cb gt ct : Nat) (x : Ln) (y : Int × ByteArray) (hy : nearM x = some y) (hxn : x.n ≤ 1000) (hxm : x.m ≤ 1000) (w : World) (hr : RwC w r gb cb gt ct x) :
    CallsIn Fence.wide n Try.prog 94 #[.pointer (some ⟨r, 0, none⟩)] w fun e W' => (∃ s, e = .returned (.tuple #[s, .agg #[.int .i64 y.1, .string y.2], .bool true]) ∧ RwN w.heap.size W' s (mvTo x y.1 y.2)) ∧ Below w.heap.size w W' := by
  have h1 : 1 ≤ n := by omega
  have HR := Lib.hid hr
  have HY := Lib.hid hy
  clear hr hy
  refine callsIn_of_wp_marks Try.func94 rfl trivial ?_ rfl
  simp only [Try.ntmps94, List.size_toArray, List.length_cons, List.length_nil, Nat.reduceAdd, Nat.reduceSub, Array.replicate_succ, Array.replicate_zero, List.push_toArray, List.append_toArray, List.nil_append, List.cons_append]
  gi_wp2
  refine ⟨trivial, ?_⟩
  have HN0 : Hid (NnM w ((((w.alloc (.cells #[.pointer (some ⟨r, 0, none⟩)] 118)).alloc (.cells #[.pointer none] 118)).alloc (.cells #[.int .i64 0, .string ⟨#[]⟩] 123)).alloc (.cells #[.bool false] 4)) r) :=
    ⟨(((Bx.new _ _ _).alloc _).alloc _).alloc _, ((Bx.newAt (by simp)).alloc _).alloc _, (Bx.newAt (by simp)).alloc _, Bx.newAt (by simp), (((below_all _ _).alloc (by simp) _).alloc (by simp; omega) _).alloc (by simp; omega) _⟩
  have HR0 := Lib.hid (HR.out.below HN0.out.bl (Nat.le_refl _))
  generalize (((w.alloc (.cells #[.pointer (some ⟨r, 0, none⟩)] 118)).alloc (.cells #[.pointer none] 118)).alloc (.cells #[.int .i64 0, .string ⟨#[]⟩] 123)).alloc (.cells #[.bool false] 4) = w0 at *
  refine (callsIn_wide.2 (leftMoves_any r gb cb gt ct x _ hxn hxm HR0.out)).mono ?_
  rintro e w1 ⟨rfl, hb1⟩
  have HN1 := Lib.hid (HN0.out.below hb1)
  have HR1 := Lib.hid (HR0.out.below hb1 (Nat.le_refl _))
  have hc1 := HN1.out.b1.cell
  have hl1 := HN1.out.b1.lt
  clear hb1
  gi_wp2
  refine ⟨trivial, ?_⟩
  have HN2 : Hid (NnM w (w1.alloc (.cells #[.int .i64 (lefS x x.n)] 3)) r) := HN1.out.below (below_all _ _)
  have HR2 : Hid (RwC (w1.alloc (.cells #[.int .i64 (lefS x x.n)] 3)) r gb cb gt ct x) := HR1.out.below (below_all _ _) (Nat.le_refl _)
  have HL2 : Hid (Bx (w1.alloc (.cells #[.int .i64 (lefS x x.n)] 3)) w1.heap.size 3 #[.int .i64 (lefS x x.n)]) := Bx.new _ _ _
  have hz1 : w.heap.size + 4 ≤ w1.heap.size := by have := HN1.out.b4.lt; omega
  clear hc1 hl1
  generalize w1.alloc (.cells #[.int .i64 (lefS x x.n)] 3) = w2 at *
  refine (callsIn_wide.2 (moves_any _ _)).mono ?_
  rintro e w3 ⟨rfl, rfl⟩
  have HN3 : Hid (NnM w (w2.alloc (.cells #[.pointer (some ⟨r, 0, none⟩)] 118)) r) := HN2.out.below (below_all _ _)
  have HR3 : Hid (RwC (w2.alloc (.cells #[.pointer (some ⟨r, 0, none⟩)] 118)) r gb cb gt ct x) := HR2.out.below (below_all _ _) (Nat.le_refl _)
  have HL3 : Hid (Bx (w2.alloc (.cells #[.pointer (some ⟨r, 0, none⟩)] 118)) w1.heap.size 3 #[.int .i64 (lefS x x.n)]) := HL2.out.alloc _
  have HS3 : Hid (Bx (w2.alloc (.cells #[.pointer (some ⟨r, 0, none⟩)] 118)) w2.heap.size 118 #[.pointer (some ⟨r, 0, none⟩)]) := Bx.new _ _ _
  gi_wp2
  generalize w2.alloc (.cells #[.pointer (some ⟨r, 0, none⟩)] 118) = w3 at *
  have hz3 : w1.heap.size < w3.heap.size ∧ w2.heap.size < w3.heap.size ∧ w.heap.size ≤ w1.heap.size := ⟨HL3.out.lt, HS3.out.lt, by omega⟩
  obtain ⟨zl, zs, zw⟩ := hz3
  have zw' : w.heap.size ≤ w3.heap.size := by omega
  have zr : r < w3.heap.size ∧ gb < w3.heap.size ∧ gt < w3.heap.size := ⟨HR3.out.box.lt, HR3.out.bs.lt, HR3.out.ts.lt⟩
  refine wpIn_rangeFunc_ownH rfl h1 (gf := 121) (lb := #[.pointer (some ⟨w2.heap.size, 0, none⟩)]) rfl trivial (enters_of Try.func121 (by kernel_rfl) rfl)
    (mvs_stops (n - 1) (by omega) w2.heap.size r gb cb gt ct x (by omega) (by omega) w3.heap.size w3 (Nat.le_refl _) (HS3.out.cell 0) zs HR3.out zr.1 zr.2.1 zr.2.2) belowK_t (belowK_b (Nat.le_refl _)) (Below.refl _ _) (fun _ => rfl)
    (fun pre W => NnI w w3 r w1.heap.size x pre W)
    (fun c pre W => NnX w w3 x c pre W)
    ?hI ?hIx ?h0
    (fun y a' W => ∃ Bv, w3.heap.size ≤ Bv ∧ Bx W Bv 123 #[.int .i64 y.1, .string y.2] ∧ a' = { tmps := #[.pointer (some ⟨r, 0, none⟩), .pointer (some ⟨w.heap.size, 0, none⟩), .pointer (some ⟨w.heap.size + 1, 0, none⟩), .pointer (some ⟨w.heap.size + 1 + 1, 0, none⟩), .pointer (some ⟨w.heap.size + 1 + 1 + 1, 0, none⟩), .pointer (some ⟨w1.heap.size, 0, none⟩), .pointer (some ⟨Bv, 0, none⟩), undef, .pointer (some ⟨r, 0, none⟩), .int .i64 (lefS x x.n), .pointer (some ⟨r, 0, none⟩), .func (.func 121) #[] #[.pointer (some ⟨w2.heap.size, 0, none⟩)], .agg #[.int .i64 y.1, .string y.2], undef, undef, undef, undef, undef, undef, undef, undef, undef, undef, undef, undef, undef, undef, undef, undef, undef, undef, undef, undef, undef, undef, undef, undef, undef], defers := [] })
    (fun y a' s A B row hs hg hr => by
      obtain ⟨Bv, q1, q2, q3⟩ := hs
      exact ⟨Bv, q1, q2.of_block (hg.block Bv q2.lt (fun e => bx_notrow q2 hr e.symm)), q3⟩) ?assign ?body ?done ?stop
  case hI =>
    intro s A B row hs hg hr
    exact ⟨hs.no, hs.nn.gr hg hr zw', hs.lf.gr hg hr, below_gr hs.bl hg hr (Nat.le_refl _) (Nat.le_refl _)⟩
  case hIx =>
    intro c s A B row hs hg hr
    obtain ⟨a1, y', s', pre', a2, a3, a4, a5, a6, a7, ⟨r2, g1, c1, g2, c2, e, b1, b2, b3, b4⟩, a9⟩ := hs
    exact ⟨a1, y', s', pre', a2, a3, a4, a5.gr hg hr, a6.gr hg hr, a7.gr hg hr, ⟨r2, g1, c1, g2, c2, e, b1.gr hg hr, b2, b3, b4⟩, below_gr a9 hg hr zw' (Nat.le_refl _)⟩
  case h0 =>
    exact ⟨fun z h => (by cases h), HN3.out, HL3.out, Below.refl _ _⟩
  case assign =>
    rintro l pre y W K hi hK
    gi_wp2
    exact hK _ _ ((KeepsOthers.alloc _ _).from _) ((Below.refl _ W).alloc hi.bl.size _) (hi.below (below_all _ _)) ⟨W.heap.size, hi.bl.size, Bx.new _ _ _, rfl⟩
  case body =>
    rintro l pre y' a' W hl ⟨r', hr'⟩ hi ⟨Bv, hBv, bX, rfl⟩ hlt
    have HI := Lib.hid hi
    have HX := Lib.hid bX
    have HRW := Lib.hid (HR3.out.belowN hi.bl zr.1 zr.2.1 zr.2.2)
    have hc1 := hi.nn.b1.cell
    have hcl := hi.lf.cell
    have hxc := bX.cell
    have hrc := HRW.out.box.cell
    clear hi bX
    have HW : Hid (Below W.heap.size W W) := Below.refl _ _
    have zx := HX.out.lt
    have z1 := HI.out.nn.b1.lt
    have z5 := HI.out.lf.lt
    have zrr := HRW.out.box.lt
    gi_wp2_with fail
    refine region_round (S := (fun w' => w'.cell? ⟨w.heap.size, 0, none⟩ = some (.pointer (some ⟨r, 0, none⟩)) ∧ w'.cell? ⟨r, 0, none⟩ = some (.slice (some ⟨gb, 0, none⟩) x.n cb) ∧ w'.cell? ⟨r, 1, none⟩ = some (.slice (some ⟨gt, 0, none⟩) x.m ct))) (by kernel_rfl) (by kernel_rfl) (fun h => (by obtain ⟨_, _, h⟩ := h; exact h)) ?_ (fun hHeld => ?_)
    · try dsimp only
      go_keep
    refine wpAnyH_take (i := 0) (oi := ?_) (v := ?_) ?_ (by kernel_rfl) (by kernel_rfl) (by kernel_rfl) ?_ ?_ (by assumption) ?_
    rotate_left 2
    · simp only [List.getElem?_toArray, List.getElem?_cons_succ, List.getElem?_cons_zero]; rfl
    · exact fun _ _ _ h => h
    · first
        | (refine Or.inr ⟨?_, ?_⟩ <;> rfl)
        | (refine Or.inl ⟨?_, ?_⟩; · rfl
           intro w hSw; (try dsimp only at hSw); go_simp; (try with_reducible rfl); done)
    try simp only [Act.put, List.setIfInBounds_toArray, List.set_cons_zero, List.set_cons_succ]
    refine wpAnyH_take (i := 1) (oi := ?_) (v := ?_) ?_ (by kernel_rfl) (by kernel_rfl) (by kernel_rfl) ?_ ?_ (by assumption) ?_
    rotate_left 2
    · simp only [List.getElem?_toArray, List.getElem?_cons_succ, List.getElem?_cons_zero]; rfl
    · exact fun _ _ _ h => h
    · first
        | (refine Or.inr ⟨?_, ?_⟩ <;> rfl)
        | (refine Or.inl ⟨?_, ?_⟩; · rfl
           intro w hSw; (try dsimp only at hSw); go_simp; (try with_reducible rfl); done)
    try simp only [Act.put, List.setIfInBounds_toArray, List.set_cons_zero, List.set_cons_succ]
    refine wpAnyH_take (i := 2) (oi := ?_) (v := ?_) ?_ (by kernel_rfl) (by kernel_rfl) (by kernel_rfl) ?_ ?_ (by assumption) ?_
    rotate_left 2
    · simp only [List.getElem?_toArray, List.getElem?_cons_succ, List.getElem?_cons_zero]; rfl
    · exact fun _ _ _ h => h
    · first
        | (refine Or.inr ⟨?_, ?_⟩ <;> rfl)
        | (refine Or.inl ⟨?_, ?_⟩; · rfl
           intro w hSw; (try dsimp only at hSw); go_simp; (try with_reducible rfl); done)
    try simp only [Act.put, List.setIfInBounds_toArray, List.set_cons_zero, List.set_cons_succ]
    refine wpAnyH_take (i := 3) (oi := ?_) (v := ?_) ?_ (by kernel_rfl) (by kernel_rfl) (by kernel_rfl) ?_ ?_ (by assumption) ?_
    rotate_left 2
    · simp only [List.getElem?_toArray, List.getElem?_cons_succ, List.getElem?_cons_zero]; rfl
    · exact fun _ _ _ h => h
    · first
        | (refine Or.inr ⟨?_, ?_⟩ <;> rfl)
        | (refine Or.inl ⟨?_, ?_⟩; · rfl
           intro w hSw; (try dsimp only at hSw); go_simp; (try with_reducible rfl); done)
    try simp only [Act.put, List.setIfInBounds_toArray, List.set_cons_zero, List.set_cons_succ]
    refine wpAnyH_take (i := 5) (oi := ?_) (v := ?_) ?_ (by kernel_rfl) (by kernel_rfl) (by kernel_rfl) ?_ ?_ (by assumption) ?_
    rotate_left 2
    · simp only [List.getElem?_toArray, List.getElem?_cons_succ, List.getElem?_cons_zero]; rfl
    · exact fun _ _ _ h => h
    · first
        | (refine Or.inr ⟨?_, ?_⟩ <;> rfl)
        | (refine Or.inl ⟨?_, ?_⟩; · rfl
           intro w hSw; (try dsimp only at hSw); go_simp; (try with_reducible rfl); done)
    try simp only [Act.put, List.setIfInBounds_toArray, List.set_cons_zero, List.set_cons_succ]
    refine wpAnyH_take (i := 6) (oi := ?_) (v := ?_) ?_ (by kernel_rfl) (by kernel_rfl) (by kernel_rfl) ?_ ?_ (by assumption) ?_
    rotate_left 2
    · simp only [List.getElem?_toArray, List.getElem?_cons_succ, List.getElem?_cons_zero]; rfl
    · exact fun _ _ _ h => h
    · first
        | (refine Or.inr ⟨?_, ?_⟩ <;> rfl)
        | (refine Or.inl ⟨?_, ?_⟩; · rfl
           intro w hSw; (try dsimp only at hSw); go_simp; (try with_reducible rfl); done)
    try simp only [Act.put, List.setIfInBounds_toArray, List.set_cons_zero, List.set_cons_succ]
    refine wpAnyH_take (i := 7) (oi := ?_) (v := ?_) ?_ (by kernel_rfl) (by kernel_rfl) (by kernel_rfl) ?_ ?_ (by assumption) ?_
    rotate_left 2
    · simp only [List.getElem?_toArray, List.getElem?_cons_succ, List.getElem?_cons_zero]; rfl
    · exact fun _ _ _ h => h
    · first
        | (refine Or.inr ⟨?_, ?_⟩ <;> rfl)
        | (refine Or.inl ⟨?_, ?_⟩; · rfl
           intro w hSw; (try dsimp only at hSw); go_simp; (try with_reducible rfl); done)
    try simp only [Act.put, List.setIfInBounds_toArray, List.set_cons_zero, List.set_cons_succ]
    refine wpAnyH_take (i := 8) (oi := ?_) (v := ?_) ?_ (by kernel_rfl) (by kernel_rfl) (by kernel_rfl) ?_ ?_ (by assumption) ?_
    rotate_left 2
    · simp only [List.getElem?_toArray, List.getElem?_cons_succ, List.getElem?_cons_zero]; rfl
    · exact fun _ _ _ h => h
    · first
        | (refine Or.inr ⟨?_, ?_⟩ <;> rfl)
        | (refine Or.inl ⟨?_, ?_⟩; · rfl
           intro w hSw; (try dsimp only at hSw); go_simp; (try with_reducible rfl); done)
    try simp only [Act.put, List.setIfInBounds_toArray, List.set_cons_zero, List.set_cons_succ]
    refine wpAnyH_ready (rs := [4]) (by kernel_rfl) (by simp) ?_
    refine AllReadyH.cons (o := ?_) ?_ (fun K hK => ?_) AllReadyH.nil
    rotate_left 1
    · simp only [List.getElem?_toArray, List.getElem?_cons_succ, List.getElem?_cons_zero]; rfl
    go_simp
    go_at_call 115
    go_must (refine Calls.mono (cloneBs_any gb 0 x.n cb x.N x.I x.O _ (by omega) (BkC.of_own (HRW.out.drew.bs))) ?_)
    rintro e v1 ⟨g1, c1, rfl, hg1, ho1, hb1⟩
    replace hb1 : Below W.heap.size W v1 := (Below.refl _ W).drew.trans hb1
    have hg1' : W.heap.size ≤ g1 := hg1
    have HO1 := Lib.hid ho1
    have HB1 := Lib.hid hb1
    have HRV := Lib.hid (HRW.out.below hb1 (Nat.le_refl _))
    have hc1v := (HI.out.nn.below hb1).b1.cell
    have hrcv := HRV.out.box.cell
    have hzv1 : W.heap.size ≤ v1.heap.size := hb1.size
    clear ho1 hb1 hg1 hc1 hrc
    refine hK.out _ _ ?_ (fun hHeld => ?_)
    · try dsimp only
      go_keep
    clear hK K
    try simp only [Act.put, List.setIfInBounds_toArray, List.set_cons_zero, List.set_cons_succ]
    refine wpAnyH_ready (rs := [9]) (by kernel_rfl) (by simp) ?_
    refine AllReadyH.cons (o := ?_) ?_ (fun K hK => ?_) AllReadyH.nil
    rotate_left 1
    · simp only [List.getElem?_toArray, List.getElem?_cons_succ, List.getElem?_cons_zero]; rfl
    go_simp
    go_at_call 110
    go_must (refine Calls.mono (clone_any gt 0 x.m ct x.T _ (by omega) (HRV.out.ic)) ?_)
    rintro e v2 ⟨g2, c2, rfl, hg2, ho2, hb2⟩
    have HO2 := Lib.hid ho2
    have HT := Lib.hid (rw_two HO1.out hb2 hg2)
    have HB2 := Lib.hid (HB1.out.trans (hb2.mono (by omega)))
    have hc1w := (HI.out.nn.below HB2.out).b1.cell
    have hrcw := (HRW.out.below HB2.out (Nat.le_refl _)).box.cell
    have hzv2 : v1.heap.size ≤ v2.heap.size := hb2.size
    have hg2' : W.heap.size ≤ g2 := by omega
    clear ho2 hb2 hg2 hc1v hrcv
    refine hK.out _ _ ?_ (fun hHeld => ?_)
    · try dsimp only
      go_keep
    clear hK K
    try simp only [Act.put, List.setIfInBounds_toArray, List.set_cons_zero, List.set_cons_succ]
    refine wpAnyH_take (i := 10) (oi := ?_) (v := ?_) ?_ (by kernel_rfl) (by kernel_rfl) (by kernel_rfl) ?_ ?_ (by assumption) ?_
    rotate_left 2
    · simp only [List.getElem?_toArray, List.getElem?_cons_succ, List.getElem?_cons_zero]; rfl
    · exact fun _ _ _ h => h
    · first
        | (refine Or.inr ⟨?_, ?_⟩ <;> rfl)
        | (refine Or.inl ⟨?_, ?_⟩; · rfl
           intro w hSw; (try dsimp only at hSw); go_simp; (try with_reducible rfl); done)
    try simp only [Act.put, List.setIfInBounds_toArray, List.set_cons_zero, List.set_cons_succ]
    refine wpAnyH_ready (rs := [11]) (by kernel_rfl) (by simp) ?_
    refine AllReadyH.cons (o := ?_) ?_ (fun K hK => ?_) AllReadyH.nil
    rotate_left 1
    · simp only [List.getElem?_toArray, List.getElem?_cons_succ, List.getElem?_cons_zero]; rfl
    go_simp
    skip
    refine hK.out _ _ ?_ (fun hHeld => ?_)
    · try dsimp only
      go_keep
    clear hK K
    try simp only [Act.put, List.setIfInBounds_toArray, List.set_cons_zero, List.set_cons_succ]
    refine wpAnyH_take (i := 12) (oi := ?_) (v := ?_) ?_ (by kernel_rfl) (by kernel_rfl) (by kernel_rfl) ?_ ?_ (by assumption) ?_
    rotate_left 2
    · simp only [List.getElem?_toArray, List.getElem?_cons_succ, List.getElem?_cons_zero]; rfl
    · exact fun _ _ _ h => h
    · first
        | (refine Or.inr ⟨?_, ?_⟩ <;> rfl)
        | (refine Or.inl ⟨?_, ?_⟩; · rfl
           intro w hSw; (try dsimp only at hSw); go_simp; (try with_reducible rfl); done)
    try simp only [Act.put, List.setIfInBounds_toArray, List.set_cons_zero, List.set_cons_succ]
    refine wpAnyH_done (by kernel_rfl) ?_ _
    have HM : Hid (RwC (v2.alloc (.cells #[.slice (some ⟨g1, 0, none⟩) x.n c1, .slice (some ⟨g2, 0, none⟩) x.m c2] 151)) v2.heap.size g1 c1 g2 c2 x) := by
      obtain ⟨a1, a2, a3⟩ := HT.out
      exact ⟨Bx.new _ _ _, a1.alloc _, HO2.out.alloc _, a2, by omega, by have := HO2.out.lt; omega⟩
    have HB3 : Hid (Below W.heap.size W (v2.alloc (.cells #[.slice (some ⟨g1, 0, none⟩) x.n c1, .slice (some ⟨g2, 0, none⟩) x.m c2] 151))) := HB2.out.alloc HB2.out.size _
    have hzv3 : W.heap.size ≤ v2.heap.size := by omega
    clear HT HO1 HO2 hc1w hrcw
    generalize hv3 : v2.alloc (.cells #[.slice (some ⟨g1, 0, none⟩) x.n c1, .slice (some ⟨g2, 0, none⟩) x.m c2] 151) = v3 at *
    clear hv3
    generalize v2.heap.size = r2 at *
    have hxc := (HX.out.below HB3.out zx).cell
    have hcl := (HI.out.lf.below HB3.out z5).cell
    gi_wp2_with fail
    have HMV : Hid (∀ V, Below v3.heap.size v3 V → Calls Try.prog 116 #[.pointer (some ⟨r2, 0, none⟩), .agg #[.int .i64 y'.1, .string y'.2]] V (MvR W.heap.size r2 g1 c1 g2 c2 x y'.1 y'.2 V)) := fun V hV =>
      move_any W.heap.size r2 g1 c1 g2 c2 x y'.1 y'.2 V (by omega) (by omega) (HM.out.below hV (Nat.le_refl _)) ⟨hg1', hg2', by have := HB3.out.size; have := hV.size; omega⟩
    have zW : w3.heap.size ≤ W.heap.size := HI.out.bl.size
    cases hmo : mvOk x y'.1 y'.2
    · have HNR : Hid (nrB x y' = false) := by show _ = _; unfold nrB; rw [hmo]; rfl
      have HMO := Lib.hid hmo
      clear hmo
      refine region_round (S := (fun w' => w'.cell? ⟨Bv, 0, none⟩ = some (.int .i64 y'.1) ∧ w'.cell? ⟨Bv, 1, none⟩ = some (.string y'.2) ∧ w'.cell? ⟨w1.heap.size, 0, none⟩ = some (.int .i64 (lefS x x.n)))) (by kernel_rfl) (by kernel_rfl) (fun h => (by obtain ⟨_, _, h⟩ := h; exact h)) ?_ (fun hHeld => ?_)
      · try dsimp only
        go_keep
      refine wpAnyH_take (i := 0) (oi := ?_) (v := ?_) ?_ (by kernel_rfl) (by kernel_rfl) (by kernel_rfl) ?_ ?_ (by assumption) ?_
      rotate_left 2
      · simp only [List.getElem?_toArray, List.getElem?_cons_succ, List.getElem?_cons_zero]; rfl
      · exact fun _ _ _ h => h
      · first
          | (refine Or.inr ⟨?_, ?_⟩ <;> rfl)
          | (refine Or.inl ⟨?_, ?_⟩; · rfl
             intro w hSw; (try dsimp only at hSw); go_simp; (try with_reducible rfl); done)
      try simp only [Act.put, List.setIfInBounds_toArray, List.set_cons_zero, List.set_cons_succ]
      refine wpAnyH_take (i := 1) (oi := ?_) (v := ?_) ?_ (by kernel_rfl) (by kernel_rfl) (by kernel_rfl) ?_ ?_ (by assumption) ?_
      rotate_left 2
      · simp only [List.getElem?_toArray, List.getElem?_cons_succ, List.getElem?_cons_zero]; rfl
      · exact fun _ _ _ h => h
      · first
          | (refine Or.inr ⟨?_, ?_⟩ <;> rfl)
          | (refine Or.inl ⟨?_, ?_⟩; · rfl
             intro w hSw; (try dsimp only at hSw); go_simp; (try with_reducible rfl); done)
      try simp only [Act.put, List.setIfInBounds_toArray, List.set_cons_zero, List.set_cons_succ]
      refine wpAnyH_ready (rs := [2]) (by kernel_rfl) (by simp) ?_
      refine AllReadyH.cons (o := ?_) ?_ (fun K hK => ?_) AllReadyH.nil
      rotate_left 1
      · simp only [List.getElem?_toArray, List.getElem?_cons_succ, List.getElem?_cons_zero]; rfl
      go_simp
      go_at_call 116
      go_must (refine Calls.mono (HMV.out _ (Below.refl _ v3).drew) ?_)
      rintro e v4 ⟨rfl, _, hb4⟩
      rw [HMO.out]
      have HB4 : Hid (Below W.heap.size W v4) := HB3.out.drew.trans hb4
      have hxc4 := (HX.out.below HB4.out zx).cell
      have hcl4 := (HI.out.lf.below HB4.out z5).cell
      clear hb4 hxc hcl
      refine hK.out _ _ ?_ (fun hHeld => ?_)
      · try dsimp only
        go_keep
      clear hK K
      try simp only [Act.put, List.setIfInBounds_toArray, List.set_cons_zero, List.set_cons_succ]
      refine wpAnyH_take (i := 3) (oi := ?_) (v := ?_) ?_ (by kernel_rfl) (by kernel_rfl) (by kernel_rfl) ?_ ?_ (by assumption) ?_
      rotate_left 2
      · simp only [List.getElem?_toArray, List.getElem?_cons_succ, List.getElem?_cons_zero]; rfl
      · exact fun _ _ _ h => h
      · first
          | (refine Or.inr ⟨?_, ?_⟩ <;> rfl)
          | (refine Or.inl ⟨?_, ?_⟩; · rfl
             intro w hSw; (try dsimp only at hSw); go_simp; (try with_reducible rfl); done)
      try simp only [Act.put, List.setIfInBounds_toArray, List.set_cons_zero, List.set_cons_succ]
      refine wpAnyH_take (i := 4) (oi := ?_) (v := ?_) ?_ (by kernel_rfl) (by kernel_rfl) (by kernel_rfl) ?_ ?_ (by assumption) ?_
      rotate_left 2
      · simp only [List.getElem?_toArray, List.getElem?_cons_succ, List.getElem?_cons_zero]; rfl
      · exact fun _ _ _ h => h
      · first
          | (refine Or.inr ⟨?_, ?_⟩ <;> rfl)
          | (refine Or.inl ⟨?_, ?_⟩; · rfl
             intro w hSw; (try dsimp only at hSw); go_simp; (try with_reducible rfl); done)
      try simp only [Act.put, List.setIfInBounds_toArray, List.set_cons_zero, List.set_cons_succ]
      refine wpAnyH_take (i := 5) (oi := ?_) (v := ?_) ?_ (by kernel_rfl) (by kernel_rfl) (by kernel_rfl) ?_ ?_ (by assumption) ?_
      rotate_left 2
      · simp only [List.getElem?_toArray, List.getElem?_cons_succ, List.getElem?_cons_zero]; rfl
      · exact fun _ _ _ h => h
      · first
          | (refine Or.inr ⟨?_, ?_⟩ <;> rfl)
          | (refine Or.inl ⟨?_, ?_⟩; · rfl
             intro w hSw; (try dsimp only at hSw); go_simp; (try with_reducible rfl); done)
      try simp only [Act.put, List.setIfInBounds_toArray, List.set_cons_zero, List.set_cons_succ]
      refine wpAnyH_take (i := 6) (oi := ?_) (v := ?_) ?_ (by kernel_rfl) (by kernel_rfl) (by kernel_rfl) ?_ ?_ (by assumption) ?_
      rotate_left 2
      · simp only [List.getElem?_toArray, List.getElem?_cons_succ, List.getElem?_cons_zero]; rfl
      · exact fun _ _ _ h => h
      · first
          | (refine Or.inr ⟨?_, ?_⟩ <;> rfl)
          | (refine Or.inl ⟨?_, ?_⟩; · rfl
             intro w hSw; (try dsimp only at hSw); go_simp; (try with_reducible rfl); done)
      try simp only [Act.put, List.setIfInBounds_toArray, List.set_cons_zero, List.set_cons_succ]
      refine wpAnyH_take (i := 7) (oi := ?_) (v := ?_) ?_ (by kernel_rfl) (by kernel_rfl) (by kernel_rfl) ?_ ?_ (by assumption) ?_
      rotate_left 2
      · simp only [List.getElem?_toArray, List.getElem?_cons_succ, List.getElem?_cons_zero]; rfl
      · exact fun _ _ _ h => h
      · first
          | (refine Or.inr ⟨?_, ?_⟩ <;> rfl)
          | (refine Or.inl ⟨?_, ?_⟩; · rfl
             intro w hSw; (try dsimp only at hSw); go_simp; (try with_reducible rfl); done)
      try simp only [Act.put, List.setIfInBounds_toArray, List.set_cons_zero, List.set_cons_succ]
      refine wpAnyH_take (i := 8) (oi := ?_) (v := ?_) ?_ (by kernel_rfl) (by kernel_rfl) (by kernel_rfl) ?_ ?_ (by assumption) ?_
      rotate_left 2
      · simp only [List.getElem?_toArray, List.getElem?_cons_succ, List.getElem?_cons_zero]; rfl
      · exact fun _ _ _ h => h
      · first
          | (refine Or.inr ⟨?_, ?_⟩ <;> rfl)
          | (refine Or.inl ⟨?_, ?_⟩; · rfl
             intro w hSw; (try dsimp only at hSw); go_simp; (try with_reducible rfl); done)
      try simp only [Act.put, List.setIfInBounds_toArray, List.set_cons_zero, List.set_cons_succ]
      refine wpAnyH_done (by kernel_rfl) ?_ _
      gi_wp2_with fail
      exact ⟨keepsFrom_below HB4.out _, HB4.out.mono zW, NnI.next HI.out HB4.out HNR.out⟩
    · have HMO := Lib.hid hmo
      clear hmo
      have HLM : Hid (∀ V, RwC V r2 g1 c1 g2 c2 (mvTo x y'.1 y'.2) → Calls Try.prog 93 #[.pointer (some ⟨r2, 0, none⟩)] V fun e w' => e = .returned (.int .i64 (lefS (mvTo x y'.1 y'.2) x.n)) ∧ Below V.heap.size V w') := fun V h => leftMoves_any r2 g1 c1 g2 c2 (mvTo x y'.1 y'.2) V hxn hxm h
      refine region_round (S := (fun w' => w'.cell? ⟨Bv, 0, none⟩ = some (.int .i64 y'.1) ∧ w'.cell? ⟨Bv, 1, none⟩ = some (.string y'.2) ∧ w'.cell? ⟨w1.heap.size, 0, none⟩ = some (.int .i64 (lefS x x.n)))) (by kernel_rfl) (by kernel_rfl) (fun h => (by obtain ⟨_, _, h⟩ := h; exact h)) ?_ (fun hHeld => ?_)
      · try dsimp only
        go_keep
      refine wpAnyH_take (i := 0) (oi := ?_) (v := ?_) ?_ (by kernel_rfl) (by kernel_rfl) (by kernel_rfl) ?_ ?_ (by assumption) ?_
      rotate_left 2
      · simp only [List.getElem?_toArray, List.getElem?_cons_succ, List.getElem?_cons_zero]; rfl
      · exact fun _ _ _ h => h
      · first
          | (refine Or.inr ⟨?_, ?_⟩ <;> rfl)
          | (refine Or.inl ⟨?_, ?_⟩; · rfl
             intro w hSw; (try dsimp only at hSw); go_simp; (try with_reducible rfl); done)
      try simp only [Act.put, List.setIfInBounds_toArray, List.set_cons_zero, List.set_cons_succ]
      refine wpAnyH_take (i := 1) (oi := ?_) (v := ?_) ?_ (by kernel_rfl) (by kernel_rfl) (by kernel_rfl) ?_ ?_ (by assumption) ?_
      rotate_left 2
      · simp only [List.getElem?_toArray, List.getElem?_cons_succ, List.getElem?_cons_zero]; rfl
      · exact fun _ _ _ h => h
      · first
          | (refine Or.inr ⟨?_, ?_⟩ <;> rfl)
          | (refine Or.inl ⟨?_, ?_⟩; · rfl
             intro w hSw; (try dsimp only at hSw); go_simp; (try with_reducible rfl); done)
      try simp only [Act.put, List.setIfInBounds_toArray, List.set_cons_zero, List.set_cons_succ]
      refine wpAnyH_ready (rs := [2]) (by kernel_rfl) (by simp) ?_
      refine AllReadyH.cons (o := ?_) ?_ (fun K hK => ?_) AllReadyH.nil
      rotate_left 1
      · simp only [List.getElem?_toArray, List.getElem?_cons_succ, List.getElem?_cons_zero]; rfl
      go_simp
      go_at_call 116
      go_must (refine Calls.mono (HMV.out _ (Below.refl _ v3).drew) ?_)
      rintro e v4 ⟨rfl, hr4, hb4⟩
      rw [HMO.out]
      rw [HMO.out, if_pos rfl] at hr4
      have HRM := Lib.hid hr4
      have HB4 : Hid (Below W.heap.size W v4) := HB3.out.drew.trans hb4
      have hxc4 := (HX.out.below HB4.out zx).cell
      have hcl4 := (HI.out.lf.below HB4.out z5).cell
      clear hb4 hxc hcl hr4
      refine hK.out _ _ ?_ (fun hHeld => ?_)
      · try dsimp only
        go_keep
      clear hK K
      try simp only [Act.put, List.setIfInBounds_toArray, List.set_cons_zero, List.set_cons_succ]
      refine wpAnyH_take (i := 3) (oi := ?_) (v := ?_) ?_ (by kernel_rfl) (by kernel_rfl) (by kernel_rfl) ?_ ?_ (by assumption) ?_
      rotate_left 2
      · simp only [List.getElem?_toArray, List.getElem?_cons_succ, List.getElem?_cons_zero]; rfl
      · exact fun _ _ _ h => h
      · first
          | (refine Or.inr ⟨?_, ?_⟩ <;> rfl)
          | (refine Or.inl ⟨?_, ?_⟩; · rfl
             intro w hSw; (try dsimp only at hSw); go_simp; (try with_reducible rfl); done)
      try simp only [Act.put, List.setIfInBounds_toArray, List.set_cons_zero, List.set_cons_succ]
      refine wpAnyH_take (i := 4) (oi := ?_) (v := ?_) ?_ (by kernel_rfl) (by kernel_rfl) (by kernel_rfl) ?_ ?_ (by assumption) ?_
      rotate_left 2
      · simp only [List.getElem?_toArray, List.getElem?_cons_succ, List.getElem?_cons_zero]; rfl
      · exact fun _ _ _ h => h
      · first
          | (refine Or.inr ⟨?_, ?_⟩ <;> rfl)
          | (refine Or.inl ⟨?_, ?_⟩; · rfl
             intro w hSw; (try dsimp only at hSw); go_simp; (try with_reducible rfl); done)
      try simp only [Act.put, List.setIfInBounds_toArray, List.set_cons_zero, List.set_cons_succ]
      refine wpAnyH_take (i := 6) (oi := ?_) (v := ?_) ?_ (by kernel_rfl) (by kernel_rfl) (by kernel_rfl) ?_ ?_ (by assumption) ?_
      rotate_left 2
      · simp only [List.getElem?_toArray, List.getElem?_cons_succ, List.getElem?_cons_zero]; rfl
      · exact fun _ _ _ h => h
      · first
          | (refine Or.inr ⟨?_, ?_⟩ <;> rfl)
          | (refine Or.inl ⟨?_, ?_⟩; · rfl
             intro w hSw; (try dsimp only at hSw); go_simp; (try with_reducible rfl); done)
      try simp only [Act.put, List.setIfInBounds_toArray, List.set_cons_zero, List.set_cons_succ]
      refine wpAnyH_ready (rs := [5]) (by kernel_rfl) (by simp) ?_
      refine AllReadyH.cons (o := ?_) ?_ (fun K hK => ?_) AllReadyH.nil
      rotate_left 1
      · simp only [List.getElem?_toArray, List.getElem?_cons_succ, List.getElem?_cons_zero]; rfl
      go_simp
      go_at_call 93
      go_must (refine Calls.mono (HLM.out _ HRM.out) ?_)
      rintro e v5 ⟨rfl, hb5⟩
      have HB5 : Hid (Below W.heap.size W v5) := HB4.out.trans (hb5.mono HB4.out.size)
      have HRM5 := Lib.hid (HRM.out.below hb5 (Nat.le_refl _))
      have hxc5 := (HX.out.below HB5.out zx).cell
      have hcl5 := (HI.out.lf.below HB5.out z5).cell
      clear hb5 hxc4 hcl4
      refine hK.out _ _ ?_ (fun hHeld => ?_)
      · try dsimp only
        go_keep
      clear hK K
      try simp only [Act.put, List.setIfInBounds_toArray, List.set_cons_zero, List.set_cons_succ]
      refine wpAnyH_take (i := 7) (oi := ?_) (v := ?_) ?_ (by kernel_rfl) (by kernel_rfl) (by kernel_rfl) ?_ ?_ (by assumption) ?_
      rotate_left 2
      · simp only [List.getElem?_toArray, List.getElem?_cons_succ, List.getElem?_cons_zero]; rfl
      · exact fun _ _ _ h => h
      · first
          | (refine Or.inr ⟨?_, ?_⟩ <;> rfl)
          | (refine Or.inl ⟨?_, ?_⟩; · rfl
             intro w hSw; (try dsimp only at hSw); go_simp; (try with_reducible rfl); done)
      try simp only [Act.put, List.setIfInBounds_toArray, List.set_cons_zero, List.set_cons_succ]
      refine wpAnyH_take (i := 8) (oi := ?_) (v := ?_) ?_ (by kernel_rfl) (by kernel_rfl) (by kernel_rfl) ?_ ?_ (by assumption) ?_
      rotate_left 2
      · simp only [List.getElem?_toArray, List.getElem?_cons_succ, List.getElem?_cons_zero]; rfl
      · exact fun _ _ _ h => h
      · first
          | (refine Or.inr ⟨?_, ?_⟩ <;> rfl)
          | (refine Or.inl ⟨?_, ?_⟩; · rfl
             intro w hSw; (try dsimp only at hSw); go_simp; (try with_reducible rfl); done)
      try simp only [Act.put, List.setIfInBounds_toArray, List.set_cons_zero, List.set_cons_succ]
      refine wpAnyH_done (by kernel_rfl) ?_ _
      by_cases hlt2 : lefS (mvTo x y'.1 y'.2) x.n < lefS x x.n
      · have HNR : Hid (nrB x y' = true) := by show _ = _; unfold nrB; rw [HMO.out, decide_eq_true hlt2]; rfl
        gi_wp2_with fail
        have HN5 := Lib.hid (HI.out.nn.below HB5.out)
        have HX5 := Lib.hid (HX.out.below HB5.out zx)
        have z4 := HI.out.nn.b4.lt
        have zB : w.heap.size + 1 + 1 + 1 < Bv := by have := HN3.out.b4.lt; omega
        have zR : W.heap.size ≤ r2 := hzv3
        have n1 : Bv ≠ w.heap.size + 1 ∧ Bv ≠ w.heap.size + 1 + 1 ∧ Bv ≠ w.heap.size + 1 + 1 + 1 := by omega
        have k2 := HN5.out.b2.cell
        have f2 := HN5.out.b2.free
        have k3 := HN5.out.b3.cell
        have f3 := HN5.out.b3.free
        have k4 := HN5.out.b4.cell
        have f4 := HN5.out.b4.free
        refine region_round (S := (fun w' => w'.cell? ⟨Bv, 0, none⟩ = some (.int .i64 y'.1) ∧ w'.cell? ⟨Bv, 1, none⟩ = some (.string y'.2))) (by kernel_rfl) (by kernel_rfl) (fun h => (by obtain ⟨_, _, h⟩ := h; exact h)) ?_ (fun hHeld => ?_)
        · try dsimp only
          go_keep
        refine wpAnyH_take (i := 0) (oi := ?_) (v := ?_) ?_ (by kernel_rfl) (by kernel_rfl) (by kernel_rfl) ?_ ?_ (by assumption) ?_
        rotate_left 2
        · simp only [List.getElem?_toArray, List.getElem?_cons_succ, List.getElem?_cons_zero]; rfl
        · exact fun _ _ _ h => h
        · first
            | (refine Or.inr ⟨?_, ?_⟩ <;> rfl)
            | (refine Or.inl ⟨?_, ?_⟩; · rfl
               intro w hSw; (try dsimp only at hSw); go_simp; (try with_reducible rfl); done)
        try simp only [Act.put, List.setIfInBounds_toArray, List.set_cons_zero, List.set_cons_succ]
        refine wpAnyH_take (i := 1) (oi := ?_) (v := ?_) ?_ (by kernel_rfl) (by kernel_rfl) (by kernel_rfl) ?_ ?_ (by assumption) ?_
        rotate_left 2
        · simp only [List.getElem?_toArray, List.getElem?_cons_succ, List.getElem?_cons_zero]; rfl
        · exact fun _ _ _ h => h
        · first
            | (refine Or.inr ⟨?_, ?_⟩ <;> rfl)
            | (refine Or.inl ⟨?_, ?_⟩; · rfl
               intro w hSw; (try dsimp only at hSw); go_simp; (try with_reducible rfl); done)
        try simp only [Act.put, List.setIfInBounds_toArray, List.set_cons_zero, List.set_cons_succ]
        have HXa : Hid (Bx (v5.drew.setCell ⟨w.heap.size + 1, 0, none⟩ (.pointer (some ⟨r2, 0, none⟩))) Bv 123 #[.int .i64 y'.1, .string y'.2]) := HX5.out.drew.setOther n1.1 _
        refine wpAnyH_ready (rs := [2]) (by kernel_rfl) (by simp) ?_
        refine AllReadyH.cons (o := ?_) ?_ (fun K hK => ?_) AllReadyH.nil
        rotate_left 1
        · simp only [List.getElem?_toArray, List.getElem?_cons_succ, List.getElem?_cons_zero]; rfl
        go_simp
        refine hK.out _ _ ?_ (fun hHeld => ?_)
        · try dsimp only
          exact ⟨HXa.out.cell 0, HXa.out.cell 1⟩
        clear hK K
        try simp only [Act.put, List.setIfInBounds_toArray, List.set_cons_zero, List.set_cons_succ]
        have HXb : Hid (Bx (((v5.drew.setCell ⟨w.heap.size + 1, 0, none⟩ (.pointer (some ⟨r2, 0, none⟩))).setCell ⟨w.heap.size + 1 + 1, 0, none⟩ (.int .i64 y'.1)).setCell ⟨w.heap.size + 1 + 1, 1, none⟩ (.string y'.2)) Bv 123 #[.int .i64 y'.1, .string y'.2]) := (HXa.out.setOther n1.2.1 _).setOther n1.2.1 _
        refine wpAnyH_ready (rs := [3]) (by kernel_rfl) (by simp) ?_
        refine AllReadyH.cons (o := ?_) ?_ (fun K hK => ?_) AllReadyH.nil
        rotate_left 1
        · simp only [List.getElem?_toArray, List.getElem?_cons_succ, List.getElem?_cons_zero]; rfl
        go_simp
        refine hK.out _ _ ?_ (fun hHeld => ?_)
        · try dsimp only
          exact ⟨HXb.out.cell 0, HXb.out.cell 1⟩
        clear hK K
        try simp only [Act.put, List.setIfInBounds_toArray, List.set_cons_zero, List.set_cons_succ]
        have HXc : Hid (Bx ((((v5.drew.setCell ⟨w.heap.size + 1, 0, none⟩ (.pointer (some ⟨r2, 0, none⟩))).setCell ⟨w.heap.size + 1 + 1, 0, none⟩ (.int .i64 y'.1)).setCell ⟨w.heap.size + 1 + 1, 1, none⟩ (.string y'.2)).setCell ⟨w.heap.size + 1 + 1 + 1, 0, none⟩ (.bool true)) Bv 123 #[.int .i64 y'.1, .string y'.2]) := HXb.out.setOther n1.2.2 _
        refine wpAnyH_ready (rs := [4]) (by kernel_rfl) (by simp) ?_
        refine AllReadyH.cons (o := ?_) ?_ (fun K hK => ?_) AllReadyH.nil
        rotate_left 1
        · simp only [List.getElem?_toArray, List.getElem?_cons_succ, List.getElem?_cons_zero]; rfl
        go_simp
        refine hK.out _ _ ?_ (fun hHeld => ?_)
        · try dsimp only
          exact ⟨HXc.out.cell 0, HXc.out.cell 1⟩
        clear hK K
        try simp only [Act.put, List.setIfInBounds_toArray, List.set_cons_zero, List.set_cons_succ]
        refine wpAnyH_done (by kernel_rfl) ?_ _
        have HFIN : Hid (NnX w w3 x .ret (pre ++ [y']) ((((v5.drew.setCell ⟨w.heap.size + 1, 0, none⟩ (.pointer (some ⟨r2, 0, none⟩))).setCell ⟨w.heap.size + 1 + 1, 0, none⟩ (.int .i64 y'.1)).setCell ⟨w.heap.size + 1 + 1, 1, none⟩ (.string y'.2)).setCell ⟨w.heap.size + 1 + 1 + 1, 0, none⟩ (.bool true))) := by
          have hl := (HI.out.nn.below HB5.out).bl
          refine ⟨rfl, y', .pointer (some ⟨r2, 0, none⟩), pre, rfl, HI.out.no, HNR.out, ?_, ?_, ?_, ⟨r2, g1, c1, g2, c2, rfl, ?_, by omega, by omega, by omega⟩, ?_⟩
          · have h0 : Bx (v5.drew.setCell ⟨w.heap.size + 1, 0, none⟩ (.pointer (some ⟨r2, 0, none⟩))) (w.heap.size + 1) 118 #[.pointer (some ⟨r2, 0, none⟩)] := by
              have := HN5.out.b2.drew.set 0 (.pointer (some ⟨r2, 0, none⟩))
              simpa using this
            exact ((h0.setOther (by dsimp only; omega) _).setOther (by dsimp only; omega) _).setOther (by dsimp only; omega) _
          · have h0 : Bx (v5.drew.setCell ⟨w.heap.size + 1, 0, none⟩ (.pointer (some ⟨r2, 0, none⟩))) (w.heap.size + 1 + 1) 123 #[.int .i64 0, .string ⟨#[]⟩] := HN5.out.b3.drew.setOther (by dsimp only; omega) _
            have h1 := bx2 h0 (.int .i64 y'.1) (.string y'.2)
            exact h1.setOther (by dsimp only; omega) _
          · have h0 : Bx (((v5.drew.setCell ⟨w.heap.size + 1, 0, none⟩ (.pointer (some ⟨r2, 0, none⟩))).setCell ⟨w.heap.size + 1 + 1, 0, none⟩ (.int .i64 y'.1)).setCell ⟨w.heap.size + 1 + 1, 1, none⟩ (.string y'.2)) (w.heap.size + 1 + 1 + 1) 4 #[.bool false] := ((HN5.out.b4.drew.setOther (by dsimp only; omega) _).setOther (by dsimp only; omega) _).setOther (by dsimp only; omega) _
            have := h0.set 0 (.bool true)
            simpa using this
          · exact (((HRM5.out.drew.setO (by omega) (by omega) (by omega) _).setO (by omega) (by omega) (by omega) _).setO (by omega) (by omega) (by omega) _).setO (by omega) (by omega) (by omega) _
          · exact (((hl.drew.setCell (p := ⟨w.heap.size + 1, 0, none⟩) (by dsimp only; omega) _).setCell (p := ⟨w.heap.size + 1 + 1, 0, none⟩) (by dsimp only; omega) _).setCell (p := ⟨w.heap.size + 1 + 1, 1, none⟩) (by dsimp only; omega) _).setCell (p := ⟨w.heap.size + 1 + 1 + 1, 0, none⟩) (by dsimp only; omega) _
        have HKF : Hid (KeepsFrom w3.heap.size W ((((v5.drew.setCell ⟨w.heap.size + 1, 0, none⟩ (.pointer (some ⟨r2, 0, none⟩))).setCell ⟨w.heap.size + 1 + 1, 0, none⟩ (.int .i64 y'.1)).setCell ⟨w.heap.size + 1 + 1, 1, none⟩ (.string y'.2)).setCell ⟨w.heap.size + 1 + 1 + 1, 0, none⟩ (.bool true))) := (((((((keepsFrom_below HB5.out w3.heap.size).trans (KeepsFrom.of_drew _ _)).trans ((KeepsOthers.setCell _ _ _).from _)).trans ((KeepsOthers.setCell _ _ _).from _)).trans ((KeepsOthers.setCell _ _ _).from _)).trans ((KeepsOthers.setCell _ _ _).from _)))
        gi_wp2_with fail
        exact ⟨HKF.out, HFIN.out⟩
      · have HNR : Hid (nrB x y' = false) := by show _ = _; unfold nrB; rw [decide_eq_false hlt2]; simp
        gi_wp2_with fail
        exact ⟨keepsFrom_below HB5.out _, HB5.out.mono zW, NnI.next HI.out HB5.out HNR.out⟩
  case done =>
    rintro D ys V hD rfl hi hK
    exfalso
    have hm : y ∈ mvsL x := List.mem_of_find?_eq_some HY.out
    have h2 : nrB x y = true := List.find?_some HY.out
    rw [hi.no y hm] at h2
    cases h2
  case stop =>
    rintro D c pre V hD hp ⟨rfl, y', s, pre', rfl, hno, hyes, q2, q3, q4, q5, q6⟩ hK
    have hyy : nearM x = some y' := near_first hp hno hyes
    have hye : y = y' := by rw [HY.out] at hyy; exact Option.some.inj hyy
    subst hye
    gi_wp2_with fail
    refine ⟨by simp, .inl ⟨_, _, rfl, run_takeDeferred hK, ?_⟩⟩
    have c2 := (bx_put q2 hK rfl (.deferred none)).cell 0
    have c3 := (bx_put q3 hK rfl (.deferred none)).cell 0
    have c3b := (bx_put q3 hK rfl (.deferred none)).cell 1
    have c4 := (bx_put q4 hK rfl (.deferred none)).cell 0
    obtain ⟨r2, g1, c1, g2, c2', rfl, hrw, z1, z2, z3⟩ := q5
    refine ⟨.tuple #[.pointer (some ⟨r2, 0, none⟩), .agg #[.int .i64 y.1, .string y.2], .bool true], ?_, ⟨_, rfl, r2, g1, c1, g2, c2', rfl, ⟨bx_put hrw.box hK rfl _, own_put hrw.bs hK rfl _, own_put hrw.ts hK rfl _, hrw.d1, hrw.d2, hrw.d3⟩, z1, z2, z3⟩, q6.trans (belowK_b (w := w) (Nat.le_refl _) V D _ _ (by have := HN3.out.bl.size; omega) hK rfl rfl)⟩
    clear q2 q3 q4 hrw z1 z2 z3
    simp [results, Try.results94, go_sem, c2, c3, c3b, c4]
end Go.Proofs.Ytokddeoliieofaa
namespace Go.Proofs.Ytokddeoliieofaa
open Go.RowKit

/-- moves that make a line done, at most f of them -/
def finL : Nat → Ln → List (Int × ByteArray)
  | 0, _ => []
  | f + 1, x => if 0 < lefS x x.n then (match nearM x with | some y => y :: finL f (mvTo x y.1 y.2) | none => []) else []
def finX (x : Ln) : List (Int × ByteArray) := finL (lefS x x.n).toNat x
theorem finL_zero {x : Ln} (h : ¬ 0 < lefS x x.n) : ∀ f, finL f x = []
  | 0 => rfl
  | _ + 1 => if_neg h
theorem near_less {x : Ln} {y : Int × ByteArray} (h : nearM x = some y) : mvOk x y.1 y.2 = true ∧ lefS (mvTo x y.1 y.2) (mvTo x y.1 y.2).n < lefS x x.n := by
  have hb : nrB x y = true := List.find?_some h
  unfold nrB at hb
  rw [Bool.and_eq_true, decide_eq_true_eq] at hb
  exact hb
theorem finL_eq : ∀ (f g : Nat) (x : Ln), lefS x x.n ≤ f → lefS x x.n ≤ g → finL f x = finL g x
  | 0, g, x, hf, _ => by rw [finL_zero (by omega) g]; rfl
  | f + 1, 0, x, _, hg => by rw [finL_zero (by omega)]; rfl
  | f + 1, g + 1, x, hf, hg => by
    unfold finL
    by_cases h : 0 < lefS x x.n
    · rw [if_pos h, if_pos h]
      cases e : nearM x with
      | none => rfl
      | some y =>
        have hl := (near_less e).2
        show _ :: _ = _ :: _
        rw [finL_eq f g (mvTo x y.1 y.2) (by omega) (by omega)]
    · rw [if_neg h, if_neg h]
theorem finX_done {x : Ln} (h : ¬ 0 < lefS x x.n) : finX x = [] := finL_zero h _
theorem finX_step {x : Ln} {y : Int × ByteArray} (h : 0 < lefS x x.n) (e : nearM x = some y) : finX x = y :: finX (mvTo x y.1 y.2) := by
  have hl := (near_less e).2
  obtain ⟨f, hf⟩ : ∃ f, (lefS x x.n).toNat = f + 1 := ⟨(lefS x x.n).toNat - 1, by omega⟩
  have h1 : finX x = finL (f + 1) x := by unfold finX; rw [hf]
  rw [h1]
  unfold finL
  rw [if_pos h, e]
  show _ :: _ = _ :: _
  rw [finL_eq f (lefS (mvTo x y.1 y.2) (mvTo x y.1 y.2).n).toNat _ (by omega) (by omega)]
  rfl
theorem finL_len : ∀ f x, (finL f x).length ≤ f
  | 0, _ => by simp [finL]
  | f + 1, x => by
    unfold finL
    split
    · split
      · rename_i y _
        have := finL_len f (mvTo x y.1 y.2)
        simp only [List.length_cons]
        omega
      · simp
    · simp
theorem lefS_135 {x : Ln} (hv : vldL x = true) : (lefS x x.n).toNat ≤ 135 := by
  have h1 := (vldL_true hv).2.1
  have h2 := (vldL_true hv).2.2.1
  have h := (lefS_bd x x.n).2
  have h3 : x.n * (5 * x.m + 2) ≤ 5 * 27 := Nat.mul_le_mul h1 (by omega)
  have h4 : ((x.n * (5 * x.m + 2) : Nat) : Int) = (x.n : Int) * (5 * (x.m : Int) + 2) := by simp
  omega
/-- the moves that LineFinish names -/
def fnL (x : Ln) : List (Int × ByteArray) := if vldL x = true then finX x else []
def slLen : Value → Nat
  | .slice _ n _ => n
  | _ => 0
theorem nextNearer_any (r gb cb gt ct : Nat) (x : Ln) (y : Int × ByteArray) (hy : nearM x = some y) (hxn : x.n ≤ 1000) (hxm : x.m ≤ 1000) (w : World) (hr : RwC w r gb cb gt ct x) :
    Calls Try.prog 94 #[.pointer (some ⟨r, 0, none⟩)] w fun e W' => (∃ s, e = .returned (.tuple #[s, .agg #[.int .i64 y.1, .string y.2], .bool true]) ∧ RwN w.heap.size W' s (mvTo x y.1 y.2)) ∧ Below w.heap.size w W' :=
  callsIn_wide.1 (nextNearer_in 6 (Nat.le_refl _) r gb cb gt ct x y hy hxn hxm w hr)
theorem RwC.kept {w w' : World} {r gb cb gt ct R : Nat} {x : Ln} (h : RwC w r gb cb gt ct x) (hg : w.grownBy w' (some R)) (h1 : r ≠ R) (h2 : gb ≠ R) (h3 : gt ≠ R) : RwC w' r gb cb gt ct x :=
  ⟨h.box.kept hg h1, h.bs.kept hg (by simpa using h2), h.ts.kept hg (by simpa using h3), h.d1, h.d2, h.d3⟩
/-- between two rounds of LineFinish's loop -/
structure FnI (w wr : World) (r gb cb gt ct g cap : Nat) (x y : Ln) (pre : List (Int × ByteArray)) : Prop where
  rw : RwC wr r gb cb gt ct y
  ow : OwnMs wr g cap pre
  gz : w.heap.size ≤ g
  vl : vldL y = true
  fx : pre ++ finX y = finX x
  ln : pre.length + (lefS y y.n).toNat ≤ 135
  bl : Below w.heap.size w wr
theorem FnI.below {w wr w' : World} {r gb cb gt ct g cap : Nat} {x y : Ln} {pre : List (Int × ByteArray)} (h : FnI w wr r gb cb gt ct g cap x y pre) (hb : Below wr.heap.size wr w') : FnI w w' r gb cb gt ct g cap x y pre :=
  ⟨h.rw.below hb (Nat.le_refl _), Own.below h.ow hb (Own.lt h.ow), h.gz, h.vl, h.fx, h.ln, h.bl.trans (hb.mono h.bl.size)⟩
set_option linter.unusedSimpArgs false in
set_option maxRecDepth 100000 in
set_option maxHeartbeats 4000000 in
theorem lineFinish_any (bb bo cb tb tu ct : Nat) (x : Ln) (w : World) (hn : x.n ≤ 1000000000000) (hm : x.m ≤ 1000000000000) (hbk : BkC w bb bo x.n x.N x.I x.O) (hic : IC w tb tu x.m x.T) :
    Calls Try.prog 59 #[.agg #[.slice (some ⟨bb, bo, none⟩) x.n cb, .slice (some ⟨tb, tu, none⟩) x.m ct]] w fun e W' => (∃ v g, e = .returned (.tuple #[v, .bool (vldL x)]) ∧ RowMs w.heap.size W' v (fnL x) (some g)) ∧ Below w.heap.size w W' := by
  have HBB : Hid (∀ a, Below w.heap.size w (w.alloc a)) := fun a => below_all _ _
  have HRW : Hid (∀ w', Below w.heap.size w w' → Calls Try.prog 92 #[.agg #[.slice (some ⟨bb, bo, none⟩) x.n cb, .slice (some ⟨tb, tu, none⟩) x.m ct]] w' (RwO x w')) := fun w' hb => by
    refine railwayOf_any bb bo cb tb tu ct x w' hn hm ?_ (hic.keep hb)
    intro k hk
    obtain ⟨h0, h1, h2⟩ := hbk k hk
    have hlt : bb < w.heap.size := World.block_lt_of_cell? w ⟨bb, bo + k * 3, none⟩ h0
    exact ⟨by rw [hb.cell (p := ⟨bb, bo + k * 3, none⟩) hlt]; exact h0, by rw [hb.cell (p := ⟨bb, bo + k * 3 + 1, none⟩) hlt]; exact h1, by rw [hb.cell (p := ⟨bb, bo + k * 3 + 2, none⟩) hlt]; exact h2⟩
  clear hbk hic
  go_enter Try.func59, Try.ntmps59
  go_wp2_with fail
  refine (HRW.out _ (HBB.out _)).mono ?_
  rintro e w1 ⟨hb1, h1⟩
  have HB1 := Lib.hid ((HBB.out _).trans (hb1.mono (by simp)))
  have HOE : Hid (Own (w1.alloc (.cells #[] 123)) w1.heap.size 0 0 2 123 (mvF (mvM []) (mvS []))) := own_empty _ _ _ _
  have HB2 : Hid (∀ a, Below w.heap.size w (w1.alloc a)) := fun a => HB1.out.alloc HB1.out.size _
  rcases h1 with ⟨hv, s, rfl, r, gb, cb', gt, ct', rfl, hrw, k1, k2, k3⟩ | ⟨hv, rfl⟩
  · have HI0 : Hid (FnI w (w1.alloc (.cells #[] 123)) r gb cb' gt ct' w1.heap.size 0 x x []) :=
      ⟨hrw.below (below_all _ _) (Nat.le_refl _), HOE.out, HB1.out.size, hv, rfl, by simpa using lefS_135 hv, HB2.out _⟩
    have HV := Lib.hid hv
    have HVX : Hid (fnL x = finX x) := if_pos hv
    clear hb1 hv hrw k1 k2 k3 HOE
    go_wp2_with fail
    generalize w1.alloc (.cells #[] 123) = W0 at *
    go_loopw [4, 6, 7, 8, 9] (fun s o _ _ _ wr => ∃ (r gb cb gt ct g cap : Nat) (y : Ln) (pre : List (Int × ByteArray)), s = .pointer (some ⟨r, 0, none⟩) ∧ o = .slice (some ⟨g, 0, none⟩) pre.length cap ∧ Hid (FnI w wr r gb cb gt ct g cap x y pre)) (fun _ o _ _ _ _ => 135 - slLen o)
    case atStart => exact ⟨r, gb, cb', gt, ct', w1.heap.size, 0, x, [], rfl, rfl, HI0⟩
    case round =>
      obtain ⟨r, gb, cb, gt, ct, g, cap, y, pre, rfl, rfl, HI⟩ := hrel
      have hnb := vldL_true HI.out.vl
      have hn5 : y.n ≤ 5 := hnb.2.1
      have hm5 : y.m ≤ 5 := hnb.2.2.1
      clear hnb
      have HLM := Lib.hid (leftMoves_any r gb cb gt ct y wr (by omega) (by omega) HI.out.rw)
      by_cases h0 : 0 < lefS y y.n
      · obtain ⟨z, hz, hzb⟩ := nearM_some HI.out.vl h0
        have HZ := Lib.hid hz
        have HNN : Hid (∀ w', Below wr.heap.size wr w' → Calls Try.prog 94 #[.pointer (some ⟨r, 0, none⟩)] w' fun e W' => (∃ s, e = .returned (.tuple #[s, .agg #[.int .i64 z.1, .string z.2], .bool true]) ∧ RwN w'.heap.size W' s (mvTo y z.1 z.2)) ∧ Below w'.heap.size w' W') := fun w' hb => nextNearer_any r gb cb gt ct y z hz (by omega) (by omega) w' (HI.out.rw.below hb (Nat.le_refl _))
        have hlen : pre.length < 135 := by have := HI.out.ln; omega
        clear hz hzb
        go_wp2_with fail
        refine HLM.out.mono ?_
        rintro e w2 ⟨rfl, hb2⟩
        have HI2 := Lib.hid (HI.out.below hb2)
        have HC := Lib.hid (HNN.out w2 hb2)
        clear hb2
        go_wp2_with fail
        refine HC.out.mono ?_
        rintro e w3 ⟨⟨s, rfl, r2, gb2, cb2, gt2, ct2, rfl, hrw, k1, k2, k3⟩, hb3⟩
        have HI3 := Lib.hid (HI2.out.below hb3)
        have hg2 := Own.lt HI2.out.ow
        have HRN : Hid (RwC (w3.alloc (.cells #[.int .i64 z.1, .string z.2] 123)) r2 gb2 cb2 gt2 ct2 (mvTo y z.1 z.2)) := hrw.below (below_all _ _) (Nat.le_refl _)
        have HI4 : Hid (FnI w (w3.alloc (.cells #[.int .i64 z.1, .string z.2] 123)) r gb cb gt ct g cap x y pre) := HI3.out.below (below_all _ _)
        have n1 : r2 ≠ g := by omega
        have n2 : gb2 ≠ g := by omega
        have n3 : gt2 ≠ g := by omega
        clear hb3 hrw k1 k2 k3 hg2
        have HO4 : Hid (Own (w3.alloc (.cells #[.int .i64 z.1, .string z.2] 123)) g cap pre.length 2 123 (mvF (mvM (pre ++ [z])) (mvS (pre ++ [z])))) := OwnMs.ext HI4.out.ow _
        have HNW := Lib.hid (mvF_new pre z)
        go_wp2_with (at_builtin; refine wpList_push elMvL rfl (.tmp 31) (.tmp 33) rfl HO4.out rfl [.int .i64 z.1, .string z.2] (by show Value.slice _ 1 1 = _; simp) HNW.out (fun _ _ => mvF_one _ _ _) (by unfold maxLen; omega) (by omega) ?_; intro g' c' wa HA hgr hd)
        have hz2 := hgr.size
        have HI5 : Hid (FnI w wa r2 gb2 cb2 gt2 ct2 g' c' x (mvTo y z.1 z.2) (pre ++ [z])) := by
          have hb5 := HI4.out.bl
          have hgz := HI4.out.gz
          refine ⟨HRN.out.kept hgr n1 n2 n3, ?_, ?_, vld_mv HI4.out.vl (near_less HZ.out).1, ?_, ?_, hb5.trans (below_of_grown hgr hgz hb5.size)⟩
          · show Own _ _ _ _ _ _ _
            rw [List.length_append]
            exact HA
          · rcases hd with ⟨h, _⟩ | h
            · omega
            · have := hb5.size; omega
          · rw [← HI4.out.fx, finX_step h0 HZ.out, List.append_assoc]
            rfl
          · have h1 := (near_less HZ.out).2
            have h2 := HI4.out.ln
            rw [List.length_append]
            simp only [List.length_cons, List.length_nil]
            omega
        clear HA hgr hd hz2 n1 n2 n3
        go_wp2_with fail
        go_roundw
        case rel => exact ⟨r2, gb2, cb2, gt2, ct2, g', c', mvTo y z.1 z.2, pre ++ [z], rfl, by simp, HI5⟩
        case measure => simp [slLen]; omega
      · have HFX : Hid (pre = fnL x) := by
          show _ = _
          rw [HVX.out, ← HI.out.fx, finX_done h0, List.append_nil]
        go_wp2_with fail
        refine HLM.out.mono ?_
        rintro e w2 ⟨rfl, hb2⟩
        have HI2 := Lib.hid (HI.out.below hb2)
        clear hb2
        go_wp2_with fail
        refine bodyPost_ret (v := .tuple #[.slice (some ⟨g, 0, none⟩) pre.length cap, .bool true]) (by simp [results, Try.results59, go_sem]) rfl ?_
        exact ⟨⟨_, g, by rw [HV.out], .inl ⟨g, cap, rfl, by rw [← HFX.out], HI2.out.gz, by rw [← HFX.out]; exact HI2.out.ow⟩⟩, HI2.out.bl⟩
  · have HV := Lib.hid hv
    have HVX : Hid (fnL x = []) := by show _ = _; unfold fnL; rw [hv]; rfl
    clear hb1 hv
    go_wp2_with fail
    refine bodyPost_ret (v := .tuple #[.slice (some ⟨w1.heap.size, 0, none⟩) 0 0, .bool false]) (by simp [results, Try.results59, go_sem]) rfl ?_
    exact ⟨⟨_, w1.heap.size, by rw [HV.out], .inl ⟨w1.heap.size, 0, rfl, by rw [HVX.out]; rfl, HB1.out.size, by rw [HVX.out]; exact HOE.out⟩⟩, HB2.out _⟩
end Go.Proofs.Ytokddeoliieofaa
namespace Go.Proofs.Ytokddeoliieofaa
open Go.RowKit

theorem leA_le' (f : Nat → Int) (p : Int) : ∀ m, leA f p m ≤ m
  | 0 => Nat.le_refl _
  | m + 1 => by
    have := leA_le' f p m
    simp only [leA]
    split <;> omega
end Go.Proofs.Ytokddeoliieofaa
namespace Go.Proofs.Ytokddeoliieofaa
open Go.RowKit

theorem spU_ok {x : Ln} {k : Nat} {z : Int × ByteArray} (h : z ∈ spU x k) : mvOk x z.1 z.2 = true := by
  unfold spU at h
  rw [List.mem_flatMap] at h
  obtain ⟨q, _, h⟩ := h
  unfold spI at h
  rw [List.mem_map] at h
  obtain ⟨c, hc, rfl⟩ := h
  exact (List.mem_filter.1 hc).2
theorem spL_ok {x : Ln} {z : Int × ByteArray} (h : z ∈ spL x) : mvOk x z.1 z.2 = true := by
  unfold spL at h
  split at h
  · exact spU_ok h
  · cases h
theorem spL_mvs {x : Ln} (hv : vldL x = true) : spL x = mvsL x := by
  rw [spL_lmL]
  exact if_pos hv
theorem stepO_ok {x : Ln} {s : Int} {l : ByteArray} (h : mvOk x s l = true) : stepO x s l = some (mvTo x s l) := if_pos h
theorem BkC.setOther {w : World} {b off n : Nat} {N : Nat → Int} {I O : Nat → Bool} (h : BkC w b off n N I O) {a : Addr} (ha : b ≠ a.block) (v : Value) : BkC (w.setCell a v) b off n N I O := fun k hk => by
  obtain ⟨h1, h2, h3⟩ := h k hk
  have e : ∀ o, (w.setCell a v).cell? ⟨b, o, none⟩ = w.cell? ⟨b, o, none⟩ := fun o => World.cell?_of_block (w := w) (Below.heap_setCell _ _ _ _ ha)
  exact ⟨by rw [e]; exact h1, by rw [e]; exact h2, by rw [e]; exact h3⟩
theorem IC.setOther {w : World} {b off n : Nat} {f : Nat → Int} (h : IC w b off n f) {a : Addr} (ha : b ≠ a.block) (v : Value) : IC (w.setCell a v) b off n f := fun k hk => by
  have e : ∀ o, (w.setCell a v).cell? ⟨b, o, none⟩ = w.cell? ⟨b, o, none⟩ := fun o => World.cell?_of_block (w := w) (Below.heap_setCell _ _ _ _ ha)
  rw [e]; exact h k hk
/-- between two rounds of the reference's LineFinish -/
structure FsI (w wr : World) (b o c b2 o2 c2 g cap : Nat) (x y : Ln) (pre : List (Int × ByteArray)) : Prop where
  arg : Bx wr w.heap.size 75 #[.slice (some ⟨b, o, none⟩) y.n c, .slice (some ⟨b2, o2, none⟩) y.m c2]
  bk : BkC wr b o y.n y.N y.I y.O
  ic : IC wr b2 o2 y.m y.T
  lb : b < wr.heap.size
  lb2 : b2 < wr.heap.size
  nb : b ≠ w.heap.size
  nb2 : b2 ≠ w.heap.size
  ow : OwnMs wr g cap pre
  gz : w.heap.size < g
  vl : vldL y = true
  fx : pre ++ finX y = finX x
  ln : pre.length + (lefS y y.n).toNat ≤ 135
  bl : Below w.heap.size w wr
theorem FsI.below {w wr w' : World} {b o c b2 o2 c2 g cap : Nat} {x y : Ln} {pre : List (Int × ByteArray)} (h : FsI w wr b o c b2 o2 c2 g cap x y pre) (hb : Below wr.heap.size wr w') : FsI w w' b o c b2 o2 c2 g cap x y pre :=
  ⟨h.arg.below hb h.arg.lt, h.bk.keep hb, h.ic.keep hb, Nat.lt_of_lt_of_le h.lb hb.size, Nat.lt_of_lt_of_le h.lb2 hb.size, h.nb, h.nb2, Own.below h.ow hb (Own.lt h.ow), h.gz, h.vl, h.fx, h.ln, h.bl.trans (hb.mono h.bl.size)⟩
/-- a row of moves that is read -/
structure MsI (wr : World) (bm mo cm : Nat) (ms : List (Int × ByteArray)) : Prop where
  mv : MvsC wr bm mo ms.length (mvM ms) (mvS ms)
theorem MsI.below {wr w' : World} {bm mo cm : Nat} {ms : List (Int × ByteArray)} (h : MsI wr bm mo cm ms) (hb : Below wr.heap.size wr w') : MsI w' bm mo cm ms := ⟨h.mv.keep hb⟩
/-- behind a step that is done -/
def FsY (wr : World) (y' : Ln) (s7 s8 : Value) (wx : World) : Prop :=
  ∃ b8 p1 e1 p2 e2, s7 = .pointer (some ⟨b8, 0, none⟩) ∧ s8 = .bool true ∧ Below wr.heap.size wr wx ∧ Bx wx b8 75 #[.slice (some ⟨p1, 0, none⟩) y'.n e1, .slice (some ⟨p2, 0, none⟩) y'.m e2] ∧ LnZ wr.heap.size wx (.slice (some ⟨p1, 0, none⟩) y'.n e1) (.slice (some ⟨p2, 0, none⟩) y'.m e2) y' ∧ wr.heap.size ≤ b8 ∧ b8 ≠ p1 ∧ b8 ≠ p2 ∧ wr.heap.size ≤ p1 ∧ wr.heap.size ≤ p2
end Go.Proofs.Ytokddeoliieofaa
