/-
  A copy of a line in the making: two rows and a box, in whatever order they are made.
-/
import Derived.Test.YtbachpfgakjncaaSa
import Derived.Deep.DeepCutAuto
namespace Go.Proofs.Ytbachpfgakjncaa
open Go.RowKit

/-- a copy of a line in new memory, in a box of its own -/
def CpC (w : World) (z : Nat) (x : Ln) (s8 : Value) (wx : World) : Prop :=
  ∃ b8 g1 c1 g2 c2, s8 = .pointer (some ⟨b8, 0, none⟩) ∧ Bx wx b8 26 #[.slice (some ⟨g1, 0, none⟩) x.n c1, .slice (some ⟨g2, 0, none⟩) x.m c2] ∧ Own wx g1 c1 x.n 3 75 (bkF x.N x.I x.O) ∧ Own wx g2 c2 x.m 1 3 (fun i => .int .i64 (x.T i)) ∧
    z ≤ b8 ∧ z ≤ g1 ∧ z ≤ g2 ∧ b8 ≠ g1 ∧ b8 ≠ g2 ∧ g1 ≠ g2 ∧ Below z w wx
theorem CpC.bl {wb wx : World} {z : Nat} {x : Ln} {s : Value} (h : CpC wb z x s wx) : Below z wb wx := by
  obtain ⟨_, _, _, _, _, _, _, _, _, _, _, _, _, _, _, hb⟩ := h
  exact hb
theorem cpS {wc w' : World} {A : Nat} {v1 v2 : Value} (h0 : wc.cell? ⟨A, 0, none⟩ = some v1) (h1 : wc.cell? ⟨A, 1, none⟩ = some v2) (hA : A < wc.heap.size) (hb : Below wc.heap.size wc w') :
    w'.cell? ⟨A, 0, none⟩ = some v1 ∧ w'.cell? ⟨A, 1, none⟩ = some v2 :=
  ⟨by rw [hb.cell (p := ⟨A, 0, none⟩) hA]; exact h0, by rw [hb.cell (p := ⟨A, 1, none⟩) hA]; exact h1⟩
theorem bx2 {w : World} {b : Nat} {t : TypeId} {v0 v1 : Value} (h : Bx w b t #[v0, v1]) (u0 u1 : Value) : Bx ((w.setCell ⟨b, 0, none⟩ u0).setCell ⟨b, 1, none⟩ u1) b t #[u0, u1] := by
  have := (h.set 0 u0).set 1 u1
  simpa using this
structure CpF (wb wr : World) (x : Ln) (s1 s2 : Option (Nat × Nat × Nat)) (s3 : Option Nat) : Prop where
  r1 : ∀ g c n, s1 = some (g, c, n) → Own wr g c n 3 75 (bkF x.N x.I x.O) ∧ wb.heap.size ≤ g
  r2 : ∀ g c n, s2 = some (g, c, n) → Own wr g c n 1 3 (fun i => .int .i64 (x.T i)) ∧ wb.heap.size ≤ g
  r3 : ∀ b, s3 = some b → Bx wr b 26 #[.slice none 0 0, .slice none 0 0] ∧ wb.heap.size ≤ b
  d12 : ∀ g c n g' c' n', s1 = some (g, c, n) → s2 = some (g', c', n') → g ≠ g'
  d13 : ∀ g c n b, s1 = some (g, c, n) → s3 = some b → g ≠ b
  d23 : ∀ g c n b, s2 = some (g, c, n) → s3 = some b → g ≠ b
  bl : Below wb.heap.size wb wr
theorem CpF.start (wb : World) (x : Ln) : CpF wb wb.drew x none none none :=
  ⟨fun _ _ _ h => (by cases h), fun _ _ _ h => (by cases h), fun _ h => (by cases h), fun _ _ _ _ _ _ h => (by cases h), fun _ _ _ _ h => (by cases h), fun _ _ _ _ h => (by cases h), (Below.refl _ _).drew⟩
theorem CpF.makeB {wb wr : World} {x : Ln} {s2 : Option (Nat × Nat × Nat)} {s3 : Option Nat} (h : CpF wb wr x none s2 s3) : CpF wb (wr.alloc (.cells #[] 75)) x (some (wr.heap.size, 0, 0)) s2 s3 := by
  have hz := h.bl.size
  refine ⟨fun g c n e => ?_, fun g c n e => ⟨(h.r2 g c n e).1.alloc _, (h.r2 g c n e).2⟩, fun b e => ⟨(h.r3 b e).1.alloc _, (h.r3 b e).2⟩, fun g c n g' c' n' e e' => ?_, fun g c n b e e' => ?_, h.d23, h.bl.alloc hz _⟩
  · cases e; exact ⟨own_empty _ _ _ _, hz⟩
  · cases e; have := (h.r2 _ _ _ e').1.lt; omega
  · cases e; have := (h.r3 _ e').1.lt; omega
theorem CpF.makeI {wb wr : World} {x : Ln} {s1 : Option (Nat × Nat × Nat)} {s3 : Option Nat} (h : CpF wb wr x s1 none s3) : CpF wb (wr.alloc (.cells #[] 3)) x s1 (some (wr.heap.size, 0, 0)) s3 := by
  have hz := h.bl.size
  refine ⟨fun g c n e => ⟨(h.r1 g c n e).1.alloc _, (h.r1 g c n e).2⟩, fun g c n e => ?_, fun b e => ⟨(h.r3 b e).1.alloc _, (h.r3 b e).2⟩, fun g c n g' c' n' e e' => ?_, h.d13, fun g c n b e e' => ?_, h.bl.alloc hz _⟩
  · cases e; exact ⟨own_empty _ _ _ _, hz⟩
  · cases e'; have := (h.r1 _ _ _ e).1.lt; omega
  · cases e; have := (h.r3 _ e').1.lt; omega
theorem CpF.makeL {wb wr : World} {x : Ln} {s1 s2 : Option (Nat × Nat × Nat)} (h : CpF wb wr x s1 s2 none) : CpF wb (wr.alloc (.cells #[.slice none 0 0, .slice none 0 0] 26)) x s1 s2 (some wr.heap.size) := by
  have hz := h.bl.size
  refine ⟨fun g c n e => ⟨(h.r1 g c n e).1.alloc _, (h.r1 g c n e).2⟩, fun g c n e => ⟨(h.r2 g c n e).1.alloc _, (h.r2 g c n e).2⟩, fun b e => ?_, h.d12, fun g c n b e e' => ?_, fun g c n b e e' => ?_, h.bl.alloc hz _⟩
  · cases e; exact ⟨Bx.new _ _ _, hz⟩
  · cases e'; have := (h.r1 _ _ _ e).1.lt; omega
  · cases e'; have := (h.r2 _ _ _ e).1.lt; omega
theorem CpF.appB {wb wr wa : World} {x : Ln} {s2 : Option (Nat × Nat × Nat)} {s3 : Option Nat} {g g1 c1 : Nat} (h : CpF wb wr x (some (g, 0, 0)) s2 s3) (ho : Own wa g1 c1 x.n 3 75 (bkF x.N x.I x.O)) (hg : wr.grownBy wa (some g)) (hd : (g1 = g ∧ c1 = 0) ∨ wr.heap.size ≤ g1) :
    CpF wb wa x (some (g1, c1, x.n)) s2 s3 := by
  have hz := h.bl.size
  have hg0 := (h.r1 _ _ _ rfl).2
  refine ⟨fun g c n e => ?_, fun g' c n e => ⟨(h.r2 g' c n e).1.picked hg (fun q => h.d12 _ _ _ _ _ _ rfl e q.symm), (h.r2 g' c n e).2⟩, fun b e => ⟨(h.r3 b e).1.kept hg (fun q => h.d13 _ _ _ _ rfl e q.symm), (h.r3 b e).2⟩, fun g c n g' c' n' e e' => ?_, fun g c n b e e' => ?_, h.d23, h.bl.trans (below_of_grown hg hg0 hz)⟩
  · cases e; exact ⟨ho, by omega⟩
  · cases e
    have h1 := h.d12 _ _ _ _ _ _ rfl e'
    have h2 := (h.r2 _ _ _ e').1.lt
    omega
  · cases e
    have h1 := h.d13 _ _ _ _ rfl e'
    have h2 := (h.r3 _ e').1.lt
    omega
theorem CpF.appI {wb wr wa : World} {x : Ln} {s1 : Option (Nat × Nat × Nat)} {s3 : Option Nat} {g g2 c2 : Nat} (h : CpF wb wr x s1 (some (g, 0, 0)) s3) (ho : Own wa g2 c2 x.m 1 3 (fun i => .int .i64 (x.T i))) (hg : wr.grownBy wa (some g)) (hd : (g2 = g ∧ c2 = 0) ∨ wr.heap.size ≤ g2) :
    CpF wb wa x s1 (some (g2, c2, x.m)) s3 := by
  have hz := h.bl.size
  have hg0 := (h.r2 _ _ _ rfl).2
  refine ⟨fun g' c n e => ⟨(h.r1 g' c n e).1.picked hg (fun q => h.d12 _ _ _ _ _ _ e rfl q), (h.r1 g' c n e).2⟩, fun g c n e => ?_, fun b e => ⟨(h.r3 b e).1.kept hg (fun q => h.d23 _ _ _ _ rfl e q.symm), (h.r3 b e).2⟩, fun g' c n g'' c' n' e e' => ?_, h.d13, fun g' c n b e e' => ?_, h.bl.trans (below_of_grown hg hg0 hz)⟩
  · cases e; exact ⟨ho, by omega⟩
  · cases e'
    have h1 := h.d12 _ _ _ _ _ _ e rfl
    have h2 := (h.r1 _ _ _ e).1.lt
    omega
  · cases e
    have h1 := h.d23 _ _ _ _ rfl e'
    have h2 := (h.r3 _ e').1.lt
    omega
theorem CpF.ownB {wb wr : World} {x : Ln} {s2 : Option (Nat × Nat × Nat)} {s3 : Option Nat} {g c n : Nat} (h : CpF wb wr x (some (g, c, n)) s2 s3) : Own wr g c n 3 75 (bkF x.N x.I x.O) := (h.r1 _ _ _ rfl).1
theorem CpF.ownI {wb wr : World} {x : Ln} {s1 : Option (Nat × Nat × Nat)} {s3 : Option Nat} {g c n : Nat} (h : CpF wb wr x s1 (some (g, c, n)) s3) : Own wr g c n 1 3 (fun i => .int .i64 (x.T i)) := (h.r2 _ _ _ rfl).1
theorem CpF.bx {wb wr : World} {x : Ln} {s1 s2 : Option (Nat × Nat × Nat)} {b : Nat} (h : CpF wb wr x s1 s2 (some b)) : Bx wr b 26 #[.slice none 0 0, .slice none 0 0] := (h.r3 _ rfl).1
theorem CpF.bxl {wb wr : World} {x : Ln} {s1 s2 : Option (Nat × Nat × Nat)} {b : Nat} (h : CpF wb wr x s1 s2 (some b)) : wb.heap.size ≤ b := (h.r3 _ rfl).2
theorem CpF.doneS {wb wr : World} {x : Ln} {g1 c1 g2 c2 b : Nat} (h : CpF wb wr x (some (g1, c1, x.n)) (some (g2, c2, x.m)) (some b)) :
    CpC wb wb.heap.size x (.pointer (some ⟨b, 0, none⟩)) ((wr.setCell ⟨b, 0, none⟩ (.slice (some ⟨g1, 0, none⟩) x.n c1)).setCell ⟨b, 1, none⟩ (.slice (some ⟨g2, 0, none⟩) x.m c2)) := by
  have h1 := h.d13 _ _ _ _ rfl rfl
  have h2 := h.d23 _ _ _ _ rfl rfl
  exact ⟨b, g1, c1, g2, c2, rfl, bx2 h.bx _ _, (h.ownB.setOther (by dsimp only; omega) _).setOther (by dsimp only; omega) _, (h.ownI.setOther (by dsimp only; omega) _).setOther (by dsimp only; omega) _, h.bxl, (h.r1 _ _ _ rfl).2, (h.r2 _ _ _ rfl).2, fun e => h1 e.symm, fun e => h2 e.symm, h.d12 _ _ _ _ _ _ rfl rfl,
    (h.bl.setCell (p := ⟨b, 0, none⟩) h.bxl _).setCell (p := ⟨b, 1, none⟩) h.bxl _⟩
theorem CpF.doneL {wb wr : World} {x : Ln} {g1 c1 g2 c2 : Nat} (h : CpF wb wr x (some (g1, c1, x.n)) (some (g2, c2, x.m)) none) :
    CpC wb wb.heap.size x (.pointer (some ⟨wr.heap.size, 0, none⟩)) (wr.alloc (.cells #[.slice (some ⟨g1, 0, none⟩) x.n c1, .slice (some ⟨g2, 0, none⟩) x.m c2] 26)) := by
  have h1 := h.ownB.lt
  have h2 := h.ownI.lt
  exact ⟨wr.heap.size, g1, c1, g2, c2, rfl, Bx.new _ _ _, h.ownB.alloc _, h.ownI.alloc _, h.bl.size, (h.r1 _ _ _ rfl).2, (h.r2 _ _ _ rfl).2, by omega, by omega, h.d12 _ _ _ _ _ _ rfl rfl, h.bl.alloc h.bl.size _⟩
end Go.Proofs.Ytbachpfgakjncaa
