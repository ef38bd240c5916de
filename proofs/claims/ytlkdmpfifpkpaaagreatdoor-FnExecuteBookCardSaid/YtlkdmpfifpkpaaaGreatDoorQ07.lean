/-
  Parts of the proof of fnExecuteBook_proved: Sc Sd Se Ea Mb Mc Eb Ee Ef Sf Lm Lv Lw Na Nb Va Nd Vc Vd Eg Vf. No condition.
-/
import Derived.Laws.BitsAllLaws
import Derived.Lib.Builder
import Derived.Lib.AppendStr
import Derived.Lib.UnsafeStr
import Derived.Lib.Strings
import Derived.Lib.Slices
import Derived.Laws.Externs
import Derived.Deep.DeepCutAuto
import Derived.Lib.SlBytesRow
import Derived.Deep.RegionWith
import Derived.Lib.IndexLaws
import Derived.Shelf.Strings.Builder1
import Derived.Shelf.Strings.Builder2
import Derived.Shelf.Strings.OnBuilder
import Derived.Shelf.Strings.BuilderF
import Derived.Shelf.Strconv.Itoa0
import Derived.Shelf.Strconv.Itoa1
import Derived.Shelf.LaysM
import Derived.Shelf.Strconv.Itoa2
import Derived.Shelf.Strconv.Itoa3
import Derived.Shelf.Strings.Search1
import Derived.Shelf.Strings.Search2
import Derived.Shelf.Strings.Search3
import Derived.Shelf.Strings.Count
import Derived.Shelf.Strings.Shaped
import Derived.Shelf.Strings.Split
import Derived.Shelf.Strings.SplitShaped
import Derived.Shelf.Unicode.DecodeSlow
import Derived.Test.YtlkdmpfifpkpaaaGreatDoorProg
import Derived.Deep.QuietTactic
import Derived.BigQuiet
import Derived.Test.YtlkdmpfifpkpaaaGreatDoorChecked
import Derived.WalkKit
import Derived.WalkSpells
import Derived.WalkLawsBesides
import Derived.Lib.Hide
import Derived.Deep.RegionHeld3
import Derived.Deep.DeepFit
import Derived.Maps.AppendAt
import Derived.RangeFuncNested
import Derived.RangeFuncBound
import Derived.RangeFuncCalls
import Derived.RangeFuncLeaves
import Derived.RangeFuncBox
import Derived.Shelf.Abstract
import Derived.OwnWalkIn
import Derived.TacticsInMore
import Derived.LoopNIn
import Derived.LoopIn
import Derived.Shelf.RegionOpen
import Derived.OrdersIn
import Derived.OrdersHeld
import Derived.Deep.RegionHeld
import Derived.Test.YtlkdmpfifpkpaaaGreatDoorQ01
import Derived.Test.YtlkdmpfifpkpaaaGreatDoorQ02
import Derived.Test.YtlkdmpfifpkpaaaGreatDoorQ03
import Derived.Test.YtlkdmpfifpkpaaaGreatDoorQ04
import Derived.Test.YtlkdmpfifpkpaaaGreatDoorQ05
import Derived.Test.YtlkdmpfifpkpaaaGreatDoorQ06
namespace Go.Proofs.YtlkdmpfifpkpaaaGreatDoor
open Go.RowKit

/-- a copy of a line in new memory, in a box of its own -/
def CpC (w : World) (z : Nat) (x : Ln) (s8 : Value) (wx : World) : Prop :=
  ∃ b8 g1 c1 g2 c2, s8 = .pointer (some ⟨b8, 0, none⟩) ∧ Bx wx b8 31 #[.slice (some ⟨g1, 0, none⟩) x.n c1, .slice (some ⟨g2, 0, none⟩) x.m c2] ∧ Own wx g1 c1 x.n 3 76 (bkF x.N x.I x.O) ∧ Own wx g2 c2 x.m 1 3 (fun i => .int .i64 (x.T i)) ∧
    z ≤ b8 ∧ z ≤ g1 ∧ z ≤ g2 ∧ b8 ≠ g1 ∧ b8 ≠ g2 ∧ g1 ≠ g2 ∧ Below z w wx
theorem CpC.bl {wb wx : World} {z : Nat} {x : Ln} {s : Value} (h : CpC wb z x s wx) : Below z wb wx := by
  obtain ⟨_, _, _, _, _, _, _, _, _, _, _, _, _, _, _, hb⟩ := h
  exact hb
structure CpF (wb wr : World) (x : Ln) (s1 s2 : Option (Nat × Nat × Nat)) (s3 : Option Nat) : Prop where
  r1 : ∀ g c n, s1 = some (g, c, n) → Own wr g c n 3 76 (bkF x.N x.I x.O) ∧ wb.heap.size ≤ g
  r2 : ∀ g c n, s2 = some (g, c, n) → Own wr g c n 1 3 (fun i => .int .i64 (x.T i)) ∧ wb.heap.size ≤ g
  r3 : ∀ b, s3 = some b → Bx wr b 31 #[.slice none 0 0, .slice none 0 0] ∧ wb.heap.size ≤ b
  d12 : ∀ g c n g' c' n', s1 = some (g, c, n) → s2 = some (g', c', n') → g ≠ g'
  d13 : ∀ g c n b, s1 = some (g, c, n) → s3 = some b → g ≠ b
  d23 : ∀ g c n b, s2 = some (g, c, n) → s3 = some b → g ≠ b
  bl : Below wb.heap.size wb wr
theorem CpF.bx {wb wr : World} {x : Ln} {s1 s2 : Option (Nat × Nat × Nat)} {b : Nat} (h : CpF wb wr x s1 s2 (some b)) : Bx wr b 31 #[.slice none 0 0, .slice none 0 0] := (h.r3 _ rfl).1
end Go.Proofs.YtlkdmpfifpkpaaaGreatDoor
namespace Go.Proofs.YtlkdmpfifpkpaaaGreatDoor
open Go.RowKit

/-- the boxes of the reference's step -/
structure StM (w wr : World) (v1 v2 : Value) (s : Int) (l : ByteArray) : Prop where
  arg : Bx wr w.heap.size 31 #[v1, v2]
  mb : Bx wr (w.heap.size + 1) 94 #[.int .i64 s, .string l]
  res : Bx wr (w.heap.size + 1 + 1) 31 #[.slice none 0 0, .slice none 0 0]
  bl : Below w.heap.size w wr
theorem StM.below {w wr w' : World} {v1 v2 : Value} {s : Int} {l : ByteArray} {D : Nat} (h : StM w wr v1 v2 s l) (hb : Below D wr w') (hD : w.heap.size + 3 ≤ D) : StM w w' v1 v2 s l :=
  ⟨h.arg.below hb (by omega), h.mb.below hb (by omega), h.res.below hb (by omega), h.bl.trans (hb.mono (by omega))⟩
theorem StM.sz {w wr : World} {v1 v2 : Value} {s : Int} {l : ByteArray} (h : StM w wr v1 v2 s l) : w.heap.size + 3 ≤ wr.heap.size := by
  have := h.res.lt; omega
/-- behind the copy -/
structure SfM (w wr : World) (v1 v2 : Value) (s : Int) (l : ByteArray) (b8 g1 c1 g2 c2 : Nat) (y : Ln) : Prop where
  st : StM w wr v1 v2 s l
  box : Bx wr b8 31 #[.slice (some ⟨g1, 0, none⟩) y.n c1, .slice (some ⟨g2, 0, none⟩) y.m c2]
  bs : Own wr g1 c1 y.n 3 76 (bkF y.N y.I y.O)
  ts : Own wr g2 c2 y.m 1 3 (fun i => .int .i64 (y.T i))
  z8 : w.heap.size + 3 ≤ b8
  z1 : w.heap.size + 3 ≤ g1
  z2 : w.heap.size + 3 ≤ g2
  d1 : b8 ≠ g1
  d2 : b8 ≠ g2
  d3 : g1 ≠ g2
theorem SfM.bl {w wr : World} {v1 v2 : Value} {s : Int} {l : ByteArray} {b8 g1 c1 g2 c2 : Nat} {y : Ln} (h : SfM w wr v1 v2 s l b8 g1 c1 g2 c2 y) {k : Nat} (hk : k < y.n) : wr.cell? ⟨g1, k * 3, none⟩ = some (.int .i64 (y.N k)) ∧ wr.cell? ⟨g1, k * 3 + 1, none⟩ = some (.bool (y.I k)) ∧ wr.cell? ⟨g1, k * 3 + 2, none⟩ = some (.bool (y.O k)) := by
  have := (BkC.of_own h.bs).at k hk
  simpa using this
theorem SfM.below {w wr w' : World} {v1 v2 : Value} {s : Int} {l : ByteArray} {b8 g1 c1 g2 c2 : Nat} {y : Ln} (h : SfM w wr v1 v2 s l b8 g1 c1 g2 c2 y) (hb : Below wr.heap.size wr w') : SfM w w' v1 v2 s l b8 g1 c1 g2 c2 y :=
  ⟨h.st.below hb h.st.sz, h.box.below hb h.box.lt, h.bs.below hb h.bs.lt, h.ts.below hb h.ts.lt, h.z8, h.z1, h.z2, h.d1, h.d2, h.d3⟩
theorem StM.setOther {w wr : World} {v1 v2 : Value} {s : Int} {l : ByteArray} (h : StM w wr v1 v2 s l) {b o : Nat} (hb : w.heap.size + 3 ≤ b) (v : Value) : StM w (wr.setCell ⟨b, o, none⟩ v) v1 v2 s l :=
  ⟨h.arg.setOther (by dsimp only; omega) _, h.mb.setOther (by dsimp only; omega) _, h.res.setOther (by dsimp only; omega) _, h.bl.setCell (p := ⟨b, o, none⟩) (by dsimp only; omega) _⟩
theorem SfM.setBk {w wr : World} {v1 v2 : Value} {s : Int} {l : ByteArray} {b8 g1 c1 g2 c2 : Nat} {y : Ln} (h : SfM w wr v1 v2 s l b8 g1 c1 g2 c2 y) (k : Nat) (a : Int) (b c : Bool) :
    SfM w (((wr.setCell ⟨g1, k * 3, none⟩ (.int .i64 a)).setCell ⟨g1, k * 3 + 1, none⟩ (.bool b)).setCell ⟨g1, k * 3 + 2, none⟩ (.bool c)) v1 v2 s l b8 g1 c1 g2 c2 { y with N := upd y.N k a, I := upd y.I k b, O := upd y.O k c } := by
  have d1 := h.d1
  have d3 := h.d3
  exact ⟨((h.st.setOther h.z1 _).setOther h.z1 _).setOther h.z1 _, ((h.box.setOther (by dsimp only; omega) _).setOther (by dsimp only; omega) _).setOther (by dsimp only; omega) _, h.bs.setBk k a b c, ((h.ts.setOther (by dsimp only; omega) _).setOther (by dsimp only; omega) _).setOther (by dsimp only; omega) _, h.z8, h.z1, h.z2, h.d1, h.d2, h.d3⟩
theorem SfM.setTr {w wr : World} {v1 v2 : Value} {s : Int} {l : ByteArray} {b8 g1 c1 g2 c2 : Nat} {y : Ln} (h : SfM w wr v1 v2 s l b8 g1 c1 g2 c2 y) (j : Nat) (a : Int) :
    SfM w (wr.setCell ⟨g2, j, none⟩ (.int .i64 a)) v1 v2 s l b8 g1 c1 g2 c2 { y with T := upd y.T j a } := by
  have d2 := h.d2
  have d3 := h.d3
  exact ⟨h.st.setOther h.z2 _, h.box.setOther (by dsimp only; omega) _, h.bs.setOther (by dsimp only; omega) _, h.ts.setInt j a, h.z8, h.z1, h.z2, h.d1, h.d2, h.d3⟩
/-- the result box filled -/
theorem SfM.done {w wr : World} {v1 v2 : Value} {s : Int} {l : ByteArray} {b8 g1 c1 g2 c2 : Nat} {y : Ln} (h : SfM w wr v1 v2 s l b8 g1 c1 g2 c2 y) (u0 u1 : Value) :
    LnO w.heap.size ((wr.setCell ⟨w.heap.size + 1 + 1, 0, none⟩ u0).setCell ⟨w.heap.size + 1 + 1, 1, none⟩ u1) (.agg #[.slice (some ⟨g1, 0, none⟩) y.n c1, .slice (some ⟨g2, 0, none⟩) y.m c2]) y ∧ Below w.heap.size w ((wr.setCell ⟨w.heap.size + 1 + 1, 0, none⟩ u0).setCell ⟨w.heap.size + 1 + 1, 1, none⟩ u1) := by
  have z1 := h.z1
  have z2 := h.z2
  exact ⟨⟨g1, c1, g2, c2, rfl, (h.bs.setOther (by dsimp only; omega) _).setOther (by dsimp only; omega) _, (h.ts.setOther (by dsimp only; omega) _).setOther (by dsimp only; omega) _, h.d3, by omega, by omega⟩, (h.st.bl.setCell (p := ⟨w.heap.size + 1 + 1, 0, none⟩) (by dsimp only; omega) _).setCell (p := ⟨w.heap.size + 1 + 1, 1, none⟩) (by dsimp only; omega) _⟩
end Go.Proofs.YtlkdmpfifpkpaaaGreatDoor
namespace Go.Proofs.YtlkdmpfifpkpaaaGreatDoor
open Go.RowKit

/-- the boxes of the reference's LineRun: the argument, the result, the line so far -/
structure SrML (w wr : World) (v1 v2 : Value) (b6 : Nat) (va vb : Value) : Prop where
  arg : Bx wr w.heap.size 31 #[v1, v2]
  res : Bx wr (w.heap.size + 1) 31 #[.slice none 0 0, .slice none 0 0]
  out : Bx wr b6 31 #[va, vb]
  bl : Below w.heap.size w wr
  z6 : w.heap.size + 2 ≤ b6
/-- a line in memory beyond z -/
def LnZ (z : Nat) (w : World) (va vb : Value) (y : Ln) : Prop :=
  ∃ g1 c1 g2 c2, va = .slice (some ⟨g1, 0, none⟩) y.n c1 ∧ vb = .slice (some ⟨g2, 0, none⟩) y.m c2 ∧ Own w g1 c1 y.n 3 76 (bkF y.N y.I y.O) ∧ Own w g2 c2 y.m 1 3 (fun i => .int .i64 (y.T i)) ∧ g1 ≠ g2 ∧ z ≤ g1 ∧ z ≤ g2
theorem LnZ.below {z D : Nat} {w w' : World} {va vb : Value} {y : Ln} (h : LnZ z w va vb y) (hb : Below D w w') (hD : w.heap.size ≤ D) : LnZ z w' va vb y := by
  obtain ⟨g1, c1, g2, c2, e1, e2, h1, h2, h3⟩ := h
  exact ⟨g1, c1, g2, c2, e1, e2, h1.below hb (Nat.lt_of_lt_of_le h1.lt hD), h2.below hb (Nat.lt_of_lt_of_le h2.lt hD), h3⟩
theorem LnZ.setOther {z : Nat} {w : World} {va vb : Value} {y : Ln} (h : LnZ z w va vb y) {b o : Nat} (hb : ∀ g1 c1 n, va = .slice (some ⟨g1, 0, none⟩) n c1 → b ≠ g1) (hb' : ∀ g2 c2 n, vb = .slice (some ⟨g2, 0, none⟩) n c2 → b ≠ g2) (u : Value) : LnZ z (w.setCell ⟨b, o, none⟩ u) va vb y := by
  obtain ⟨g1, c1, g2, c2, rfl, rfl, h1, h2, h3⟩ := h
  exact ⟨g1, c1, g2, c2, rfl, rfl, h1.setOther (fun e => hb _ _ _ rfl e.symm) _, h2.setOther (fun e => hb' _ _ _ rfl e.symm) _, h3⟩
theorem SrML.below {w wr w' : World} {v1 v2 va vb : Value} {b6 D : Nat} (h : SrML w wr v1 v2 b6 va vb) (hb : Below D wr w') (hD : wr.heap.size ≤ D) : SrML w w' v1 v2 b6 va vb :=
  ⟨h.arg.below hb (Nat.lt_of_lt_of_le h.arg.lt hD), h.res.below hb (Nat.lt_of_lt_of_le h.res.lt hD), h.out.below hb (Nat.lt_of_lt_of_le h.out.lt hD), h.bl.trans (hb.mono (Nat.le_trans h.bl.size hD)), h.z6⟩
theorem SrML.setOther {w wr : World} {v1 v2 va vb : Value} {b6 b o : Nat} (h : SrML w wr v1 v2 b6 va vb) (hb : b ≠ b6) (hz : w.heap.size + 2 ≤ b) (u : Value) : SrML w (wr.setCell ⟨b, o, none⟩ u) v1 v2 b6 va vb :=
  ⟨h.arg.setOther (by dsimp only; omega) _, h.res.setOther (by dsimp only; omega) _, h.out.setOther (fun e => hb e.symm) _, h.bl.setCell (p := ⟨b, o, none⟩) (by dsimp only; omega) _, h.z6⟩
theorem LnZ.mono {z z' : Nat} {w : World} {va vb : Value} {y : Ln} (h : LnZ z w va vb y) (hz : z' ≤ z) : LnZ z' w va vb y := by
  obtain ⟨g1, c1, g2, c2, e1, e2, h1, h2, h3, h4, h5⟩ := h
  exact ⟨g1, c1, g2, c2, e1, e2, h1, h2, h3, by omega, by omega⟩
theorem LnZ.lts {z : Nat} {w : World} {p1 n1 c1 p2 n2 c2 : Nat} {y : Ln} (h : LnZ z w (.slice (some ⟨p1, 0, none⟩) n1 c1) (.slice (some ⟨p2, 0, none⟩) n2 c2) y) : p1 < w.heap.size ∧ p2 < w.heap.size := by
  obtain ⟨g1, c1, g2, c2, e1, e2, h1, h2, h3, h4, h5⟩ := h
  cases e1
  cases e2
  exact ⟨h1.lt, h2.lt⟩
theorem LnZ.done {w wr : World} {p1 c1 p2 c2 : Nat} {y : Ln} (h : LnZ (w.heap.size + 2) wr (.slice (some ⟨p1, 0, none⟩) y.n c1) (.slice (some ⟨p2, 0, none⟩) y.m c2) y) (u0 u1 : Value) :
    LnO w.heap.size ((wr.setCell ⟨w.heap.size + 1, 0, none⟩ u0).setCell ⟨w.heap.size + 1, 1, none⟩ u1) (.agg #[.slice (some ⟨p1, 0, none⟩) y.n c1, .slice (some ⟨p2, 0, none⟩) y.m c2]) y := by
  obtain ⟨g1, c1, g2, c2, e1, e2, h1, h2, h3, h4, h5⟩ := h
  cases e1
  cases e2
  exact ⟨_, _, _, _, rfl, (h1.setOther (by dsimp only; omega) _).setOther (by dsimp only; omega) _, (h2.setOther (by dsimp only; omega) _).setOther (by dsimp only; omega) _, h3, by omega, by omega⟩
end Go.Proofs.YtlkdmpfifpkpaaaGreatDoor
namespace Go.Proofs.YtlkdmpfifpkpaaaGreatDoor
open Go.RowKit

/-- a row of blocks as a value; where n is 0 it may be nil -/
def BL (w : World) (v : Value) (n : Nat) (N : Nat → Int) (I O : Nat → Bool) : Prop :=
  (∃ b o c, v = .slice (some ⟨b, o, none⟩) n c ∧ BkC w b o n N I O) ∨ (n = 0 ∧ ∃ ao c, v = .slice ao 0 c)
theorem BL.keep {w w' : World} {v : Value} {n : Nat} {N : Nat → Int} {I O : Nat → Bool} (h : BL w v n N I O) (hb : Below w.heap.size w w') : BL w' v n N I O := by
  rcases h with ⟨b, o, c, e, h⟩ | h
  · exact .inl ⟨b, o, c, e, h.keep hb⟩
  · exact .inr h
theorem BL.shape {w : World} {v : Value} {n : Nat} {N : Nat → Int} {I O : Nat → Bool} (h : BL w v n N I O) : ∃ ao c, v = .slice ao n c := by
  rcases h with ⟨b, o, c, e, _⟩ | ⟨rfl, ao, c, e⟩
  · exact ⟨_, _, e⟩
  · exact ⟨_, _, e⟩
theorem elMvL : Elem Tryz.prog 54 94 (.agg #[.int .i64 0, .string ⟨#[]⟩]) 2 24 := ⟨Tryz.underlying54, by kernel_rfl, rfl, by decide⟩
theorem Own.bl {w : World} {g cap n : Nat} {N : Nat → Int} {I O : Nat → Bool} {t : TypeId} (h : Own w g cap n 3 t (bkF N I O)) {k : Nat} (hk : k < n) : w.cell? ⟨g, k * 3, none⟩ = some (.int .i64 (N k)) ∧ w.cell? ⟨g, k * 3 + 1, none⟩ = some (.bool (I k)) ∧ w.cell? ⟨g, k * 3 + 2, none⟩ = some (.bool (O k)) := by
  have := (BkC.of_own h).at k hk
  simpa using this
/-- a row of zero blocks -/
theorem own_bk0 (w : World) (n : Nat) (hn : n ≤ 1000000000000) : Own (w.alloc (.cells (madeCells #[.int .i64 0, .bool false, .bool false] (n * 3)) 76)) w.heap.size n n 3 76 (bkF (fun _ => 0) (fun _ => false) (fun _ => false)) :=
  own_full w _ n 3 _ _ (by unfold maxLen; omega) rfl (by omega) (fun i _ => by
    unfold bkF
    have h3 : i % 3 = 0 ∨ i % 3 = 1 ∨ i % 3 = 2 := by omega
    rcases h3 with h | h | h <;> simp [h])
end Go.Proofs.YtlkdmpfifpkpaaaGreatDoor
namespace Go.Proofs.YtlkdmpfifpkpaaaGreatDoor
open Go.RowKit

theorem bx_notrow {W : World} {b B : Nat} {t : TypeId} {cs : Array Value} {row : Option Nat} (h : Bx W b t cs) (hr : ∀ r, row = some r → B ≤ r ∧ ∃ o : Obj, W.heap[r]? = some o ∧ o.isCells = false) : row ≠ some b := fun e => by
  obtain ⟨_, o, ho, hc⟩ := hr b e
  rw [show W.heap[b]? = _ from h] at ho
  cases ho
  cases hc
attribute [local go_sem] Oper.semAt_some
end Go.Proofs.YtlkdmpfifpkpaaaGreatDoor
namespace Go.Proofs.YtlkdmpfifpkpaaaGreatDoor
open Go.RowKit

/-- the numbers and the letters of a list of moves -/
def mvM (ys : List (Int × ByteArray)) (i : Nat) : Int := (ys[i]?.getD (0, ⟨#[]⟩)).1
def mvS (ys : List (Int × ByteArray)) (i : Nat) : ByteArray := (ys[i]?.getD (0, ⟨#[]⟩)).2
/-- a slice of moves in new memory, or nil where there are none -/
def RowMs (z : Nat) (W : World) (v : Value) (ys : List (Int × ByteArray)) (g : Option Nat) : Prop :=
  (∃ b c, g = some b ∧ v = .slice (some ⟨b, 0, none⟩) ys.length c ∧ z ≤ b ∧ Own W b c ys.length 2 94 (mvF (mvM ys) (mvS ys))) ∨ (g = none ∧ ys = [] ∧ v = .slice none 0 0)
end Go.Proofs.YtlkdmpfifpkpaaaGreatDoor
namespace Go.Proofs.YtlkdmpfifpkpaaaGreatDoor
open Go.RowKit

/-- a line as an argument -/
def LnV (w : World) (v : Value) (x : Ln) : Prop := ∃ va vb, v = .agg #[va, vb] ∧ BL w va x.n x.N x.I x.O ∧ SL w vb x.m x.T
theorem LnV.keep {w w' : World} {v : Value} {x : Ln} (h : LnV w v x) (hb : Below w.heap.size w w') : LnV w' v x := by
  obtain ⟨va, vb, e, h1, h2⟩ := h
  exact ⟨va, vb, e, h1.keep hb, h2.keep hb⟩
end Go.Proofs.YtlkdmpfifpkpaaaGreatDoor
namespace Go.Proofs.YtlkdmpfifpkpaaaGreatDoor
open Go.RowKit

/-- a row of blocks of its own (block g), or nil -/
def RowB (w : World) (v : Value) (n : Nat) (f : Nat → Value) (g : Option Nat) : Prop :=
  (∃ b c, g = some b ∧ v = .slice (some ⟨b, 0, none⟩) n c ∧ Own w b c n 3 76 f) ∨ (g = none ∧ n = 0 ∧ v = .slice none 0 0)
theorem RowB.below {w w' : World} {v : Value} {n : Nat} {f : Nat → Value} {g : Option Nat} (h : RowB w v n f g) (hb : Below w.heap.size w w') : RowB w' v n f g := by
  rcases h with ⟨b, c, e, e2, h⟩ | h
  · exact .inl ⟨b, c, e, e2, h.below hb h.lt⟩
  · exact .inr h
theorem RowB.grown {w w' : World} {v : Value} {n : Nat} {f : Nat → Value} {g row : Option Nat} (h : RowB w v n f g) (hb : w.grownBy w' row) (hne : ∀ b, g = some b → row ≠ some b) : RowB w' v n f g := by
  rcases h with ⟨b, c, e, e2, h⟩ | h
  · exact .inl ⟨b, c, e, e2, h.kept hb (fun q => hne b e q.symm)⟩
  · exact .inr h
theorem RowB.reads {w : World} {v : Value} {n : Nat} {N : Nat → Int} {I O : Nat → Bool} {g : Option Nat} (h : RowB w v n (bkF N I O) g) : BL w v n N I O := by
  rcases h with ⟨b, c, e, e2, h⟩ | ⟨e, e2, e3⟩
  · exact .inl ⟨b, 0, c, e2, BkC.of_own h⟩
  · exact .inr ⟨e2, _, _, e3⟩
end Go.Proofs.YtlkdmpfifpkpaaaGreatDoor
namespace Go.Proofs.YtlkdmpfifpkpaaaGreatDoor
open Go.RowKit

theorem RowB.lt {w : World} {v : Value} {n : Nat} {f : Nat → Value} {g : Option Nat} (h : RowB w v n f g) : ∀ b, g = some b → b < w.heap.size := fun b e => by
  rcases h with ⟨b', c, e1, e2, h⟩ | ⟨e1, _⟩
  · rw [e1] at e; cases e; exact h.lt
  · rw [e1] at e; cases e
/-- a line in a box, its rows its own -/
structure LB (w : World) (b : Nat) (va vb : Value) (y : Ln) (g1 g2 : Option Nat) : Prop where
  bx : Bx w b 31 #[va, vb]
  rb : RowB w va y.n (bkF y.N y.I y.O) g1
  ri : RowI w vb y.m y.T g2
  nb1 : ∀ c, g1 = some c → b ≠ c
  nb2 : ∀ c, g2 = some c → b ≠ c
  n12 : ∀ c, g1 = some c → g2 ≠ some c
theorem LB.below {w w' : World} {b : Nat} {va vb : Value} {y : Ln} {g1 g2 : Option Nat} (h : LB w b va vb y g1 g2) (hb : Below w.heap.size w w') : LB w' b va vb y g1 g2 :=
  ⟨h.bx.below hb h.bx.lt, h.rb.below hb, h.ri.below hb, h.nb1, h.nb2, h.n12⟩
theorem LB.grown {w w' : World} {b : Nat} {va vb : Value} {y : Ln} {g1 g2 row : Option Nat} (h : LB w b va vb y g1 g2) (hb : w.grownBy w' row) (hn : ∀ c, row = some c → b ≠ c ∧ g1 ≠ some c ∧ g2 ≠ some c) : LB w' b va vb y g1 g2 :=
  ⟨h.bx.grown hb (fun e => (hn b e).1 rfl), h.rb.grown hb (fun c e e2 => (hn c e2).2.1 e), h.ri.grown hb (fun c e e2 => (hn c e2).2.2 e), h.nb1, h.nb2, h.n12⟩
theorem LB.reads {w : World} {b : Nat} {va vb : Value} {y : Ln} {g1 g2 : Option Nat} (h : LB w b va vb y g1 g2) : LnV w (.agg #[va, vb]) y := ⟨va, vb, rfl, h.rb.reads, h.ri.reads⟩
/-- the blocks of a line lie from z on -/
def Fr2 (z : Nat) (w : World) (g1 g2 : Option Nat) : Prop := (∀ c, g1 = some c → z ≤ c ∧ c < w.heap.size) ∧ (∀ c, g2 = some c → z ≤ c ∧ c < w.heap.size)
/-- what a call hands back as a line -/
def LnN (z : Nat) (w : World) (va vb : Value) (y : Ln) (g1 g2 : Option Nat) : Prop :=
  RowB w va y.n (bkF y.N y.I y.O) g1 ∧ RowI w vb y.m y.T g2 ∧ (∀ c, g1 = some c → g2 ≠ some c) ∧ Fr2 z w g1 g2
theorem LnN.reads {z : Nat} {w : World} {va vb : Value} {y : Ln} {g1 g2 : Option Nat} (h : LnN z w va vb y g1 g2) : LnV w (.agg #[va, vb]) y := ⟨va, vb, rfl, h.1.reads, h.2.1.reads⟩
theorem LnO.new {z : Nat} {w : World} {v : Value} {y : Ln} (h : LnO z w v y) : ∃ va vb g1 g2, v = .agg #[va, vb] ∧ LnN z w va vb y g1 g2 := by
  obtain ⟨g1, c1, g2, c2, e, h1, h2, h3, h4, h5⟩ := h
  exact ⟨_, _, some g1, some g2, e, .inl ⟨g1, c1, rfl, rfl, h1⟩, .inl ⟨g2, c2, rfl, rfl, h2⟩, fun c e e2 => by cases e; cases e2; exact h3 rfl, fun c e => by cases e; exact ⟨h4, h1.lt⟩, fun c e => by cases e; exact ⟨h5, h2.lt⟩⟩
end Go.Proofs.YtlkdmpfifpkpaaaGreatDoor
namespace Go.Proofs.YtlkdmpfifpkpaaaGreatDoor
open Go.RowKit

/-- a row of the moves ys of its own -/
def OwnMs (w : World) (g cap : Nat) (ys : List (Int × ByteArray)) : Prop := Own w g cap ys.length 2 94 (mvF (mvM ys) (mvS ys))
theorem mvM_snoc (ys : List (Int × ByteArray)) (y : Int × ByteArray) {i : Nat} (hi : i < ys.length) : mvM ys i = mvM (ys ++ [y]) i ∧ mvS ys i = mvS (ys ++ [y]) i := by
  unfold mvM mvS
  rw [List.getElem?_append_left hi]
  exact ⟨rfl, rfl⟩
theorem OwnMs.ext {w : World} {g cap : Nat} {ys : List (Int × ByteArray)} (h : OwnMs w g cap ys) (y : Int × ByteArray) : Own w g cap ys.length 2 94 (mvF (mvM (ys ++ [y])) (mvS (ys ++ [y]))) :=
  Own.congr h (mvF_congr (fun _ hk => (mvM_snoc ys y hk).1) (fun _ hk => (mvM_snoc ys y hk).2))
theorem mvF_new (ys : List (Int × ByteArray)) (y : Int × ByteArray) : ∀ j, j < 2 → [Value.int .i64 y.1, .string y.2][j]? = some (mvF (mvM (ys ++ [y])) (mvS (ys ++ [y])) (ys.length * 2 + j)) := fun j hj => by
  match j, hj with
  | 0, _ => unfold mvF; rw [if_pos (by omega), show (ys.length * 2 + 0) / 2 = ys.length by omega]; simp [mvM]
  | 1, _ => unfold mvF; rw [if_neg (by omega), show (ys.length * 2 + 1) / 2 = ys.length by omega]; simp [mvS]
end Go.Proofs.YtlkdmpfifpkpaaaGreatDoor
namespace Go.Proofs.YtlkdmpfifpkpaaaGreatDoor
open Go.RowKit

theorem bt_chr (c : UInt8) : bt (chr c) 0 = (c.toNat : Int) := by
  have h : 0 < (chr c).size := by show 0 < 1; omega
  rw [← bt_at h]
  rfl
theorem mvJ_chr (x : Ln) (k : Nat) (c : UInt8) : mvJ x k (chr c) = nx (stI (x.N k) (x.I k) (x.O k)) (c.toNat : Int) := by
  show bsI (x.N k) (x.I k) (x.O k) (chr c) = _
  unfold bsI
  rw [if_pos (show (chr c).size = 1 from rfl), bt_chr]
theorem chr_eq (c d : UInt8) : (chr c = chr d) ↔ c = d := by
  constructor
  · intro h
    have := congrArg (fun b : ByteArray => b.data) h
    simpa [chr] using this
  · intro h; rw [h]
end Go.Proofs.YtlkdmpfifpkpaaaGreatDoor
namespace Go.Proofs.YtlkdmpfifpkpaaaGreatDoor
open Go.RowKit

theorem stB_i {j : Nat} (h : j < 5) : (stB j).i = decide (j = 3) := by
  match j, h with
  | 0, _ => rfl
  | 1, _ => rfl
  | 2, _ => rfl
  | 3, _ => rfl
  | 4, _ => rfl
theorem nx_cases {s : Nat} {c : Int} (h : nx s c < 5) :
    (s = 0 ∧ c = 111 ∧ nx s c = 1) ∨ (s = 1 ∧ c = 114 ∧ nx s c = 0) ∨ (s = 1 ∧ c = 97 ∧ nx s c = 2) ∨ (s = 2 ∧ c = 99 ∧ nx s c = 0) ∨ (s = 2 ∧ c = 101 ∧ nx s c = 3) ∨ (s = 3 ∧ c = 108 ∧ nx s c = 4) ∨ (s = 4 ∧ c = 102 ∧ nx s c = 0) := by
  match s with
  | 0 => simp only [nx] at h ⊢; split at h <;> rename_i e <;> simp [e] at h ⊢
  | 1 => simp only [nx] at h ⊢
         by_cases e : c = 114
         · simp [e]
         · by_cases e2 : c = 97
           · simp [e2]
           · simp [e, e2] at h
  | 2 => simp only [nx] at h ⊢
         by_cases e : c = 99
         · simp [e]
         · by_cases e2 : c = 101
           · simp [e2]
           · simp [e, e2] at h
  | 3 => simp only [nx] at h ⊢; split at h <;> rename_i e <;> simp [e] at h ⊢
  | 4 => simp only [nx] at h ⊢; split at h <;> rename_i e <;> simp [e] at h ⊢
  | s + 5 => simp [nx] at h
theorem chr_of {l : ByteArray} (h : l.size = 1) : ∃ c, l = chr c := by
  obtain ⟨d⟩ := l
  have h1 : d.size = 1 := h
  obtain ⟨l⟩ := d
  have h2 : l.length = 1 := by simpa using h1
  match l, h2 with
  | [c], _ => exact ⟨c, rfl⟩
theorem bsI_sz {n : Int} {i o : Bool} {l : ByteArray} (h : bsI n i o l < 5) : l.size = 1 := by
  unfold bsI at h
  split at h
  · assumption
  · omega
/-- the state of a section -/
def sk (x : Ln) (k : Nat) : Nat := stI (x.N k) (x.I k) (x.O k)
theorem sk_lt {x : Ln} (hv : vldL x = true) {k : Nat} (hk : k < x.n) : sk x k < 5 := by
  have h := (vldL_true hv).2.2.2.1 k hk
  exact of_decide_eq_true h
theorem sk_I {x : Ln} (hv : vldL x = true) {k : Nat} (hk : k < x.n) : x.I k = decide (sk x k = 3) := by
  have h5 := sk_lt hv hk
  have h := (stI_B (n := x.N k) (i := x.I k) (o := x.O k) rfl h5).2.1
  rw [h]
  exact stB_i h5
/-- what a move that can be done is -/
theorem mv_is {x : Ln} {s : Int} {l : ByteArray} (ho : mvOk x s l = true) : ∃ (k : Nat) (c : UInt8), s = k ∧ k < x.n ∧ l = chr c ∧ mvJ x s l = nx (sk x k) c.toNat ∧ mvJ x s l < 5 ∧ ((eB l || lB l) = true → fstA x.T (plI s l) x.m < x.m) := by
  simp only [mvOk, Bool.and_eq_true, inB_true, decide_eq_true_eq, Bool.or_eq_true, Bool.not_eq_true'] at ho
  obtain ⟨⟨h0, h1⟩, h2, h3⟩ := ho
  obtain ⟨k, rfl⟩ := Int.eq_ofNat_of_zero_le h0
  obtain ⟨c, rfl⟩ := chr_of (bsI_sz (n := x.N k) (i := x.I k) (o := x.O k) h2)
  refine ⟨k, c, rfl, by omega, rfl, mvJ_chr x k c, h2, fun h => ?_⟩
  rcases h3 with h3 | h3
  · rw [h3] at h; cases h
  · exact h3
theorem cntA_upd_out {f : Nat → Int} (i : Nat) {v q : Int} : ∀ m, m ≤ i → cntA (upd f i v) q m = cntA f q m
  | 0, _ => rfl
  | m + 1, h => by
    simp only [cntA]
    rw [cntA_upd_out i m (by omega), show upd f i v m = f m from if_neg (show ¬ m = i by omega)]
theorem cntA_upd {f : Nat → Int} {i : Nat} {v q : Int} : ∀ m, i < m → cntA (upd f i v) q m + (if f i = q then 1 else 0) = cntA f q m + (if v = q then 1 else 0)
  | 0, h => by omega
  | m + 1, h => by
    simp only [cntA]
    by_cases e : i = m
    · subst e
      rw [cntA_upd_out i i (Nat.le_refl _), show upd f i v i = v from if_pos rfl]
      omega
    · have ih := cntA_upd (f := f) (i := i) (v := v) (q := q) m (by omega)
      rw [show upd f i v m = f m from if_neg (fun h => e h.symm)]
      omega
theorem fstA_before (f : Nat → Int) (p : Int) : ∀ m j, j < fstA f p m → f j ≠ p
  | 0, j, h => by simp [fstA] at h
  | m + 1, j, h => by
    have ih := fstA_before f p m j
    have hle := fstA_le f p m
    simp only [fstA] at h
    split at h
    · exact ih h
    · rename_i hn
      have e : fstA f p m = m := by omega
      split at h
      · exact ih (by omega)
      · rename_i h2
        by_cases ej : j = m
        · rw [ej]; exact h2
        · exact ih (by omega)
theorem trOk_true {x : Ln} {i : Nat} : trOk x i = true ↔ (0 ≤ x.T i ∧ x.T i ≤ 2 * (x.n : Int)) ∧ (i = 0 ∨ x.T i ≤ x.T (i - 1)) := by
  simp [trOk, inB_true]
theorem plI_e (s : Int) : plI s (chr 101) = 2 * s := if_pos (decide_eq_true rfl)
theorem plI_l (s : Int) : plI s (chr 108) = 2 * s + 1 := by
  unfold plI
  rw [if_neg (by simp [eB, chr_eq]), if_pos (show lB (chr 108) = true from decide_eq_true rfl)]
theorem el_no {c : UInt8} (h1 : c ≠ 101) (h2 : c ≠ 108) : (eB (chr c) || lB (chr c)) = false := by
  rw [show eB (chr c) = false from decide_eq_false (fun h => h1 ((chr_eq c 101).1 h)), show lB (chr c) = false from decide_eq_false (fun h => h2 ((chr_eq c 108).1 h))]
  rfl
theorem el_e : (eB (chr 101) || lB (chr 101)) = true := by
  rw [show eB (chr 101) = true from decide_eq_true rfl]; rfl
theorem el_l : (eB (chr 108) || lB (chr 108)) = true := by
  rw [show lB (chr 108) = true from decide_eq_true rfl, Bool.or_true]
/-- a move by its kind: its section k, the state behind it J; no train turns, or train i goes from p to p + 1 -/
theorem mv_kind {x : Ln} {s : Int} {l : ByteArray} (ho : mvOk x s l = true) : ∃ k : Nat, s = k ∧ k < x.n ∧ mvJ x s l < 5 ∧
    ((mvTo x s l).T = x.T ∧ sk x k ≠ 3 ∧ mvJ x s l ≠ 3 ∨
     (∃ i, i < x.m ∧ x.T i = 2 * k ∧ (∀ j, j < i → x.T j ≠ 2 * k) ∧ (mvTo x s l).T = upd x.T i (2 * k + 1) ∧ sk x k = 2 ∧ mvJ x s l = 3) ∨
     (∃ i, i < x.m ∧ x.T i = 2 * k + 1 ∧ (∀ j, j < i → x.T j ≠ 2 * k + 1) ∧ (mvTo x s l).T = upd x.T i (2 * k + 1 + 1) ∧ sk x k = 3 ∧ mvJ x s l = 4)) := by
  obtain ⟨k, c, rfl, hk, rfl, hJ, hJ5, hf⟩ := mv_is ho
  refine ⟨k, rfl, hk, hJ5, ?_⟩
  rw [hJ] at hJ5
  have hc : ∀ d : UInt8, ((c.toNat : Nat) : Int) = (d.toNat : Int) → c = d := fun d h => UInt8.toNat_inj.1 (by omega)
  by_cases h1 : c = 101
  · subst h1
    right; left
    have hi := hf el_e
    rw [plI_e] at hi
    refine ⟨_, hi, fstA_at _ _ _ hi, fstA_before _ _ _, ?_, ?_⟩
    · unfold mvTo
      simp only [el_e, if_true, plI_e]
    · rcases nx_cases hJ5 with h | h | h | h | h | h | h <;> (obtain ⟨a, b, d⟩ := h; try (exfalso; revert b; decide))
      exact ⟨a, by rw [hJ, d]⟩
  by_cases h2 : c = 108
  · subst h2
    right; right
    have hi := hf el_l
    rw [plI_l] at hi
    refine ⟨_, hi, fstA_at _ _ _ hi, fstA_before _ _ _, ?_, ?_⟩
    · unfold mvTo
      simp only [el_l, if_true, plI_l]
    · rcases nx_cases hJ5 with h | h | h | h | h | h | h <;> (obtain ⟨a, b, d⟩ := h; try (exfalso; revert b; decide))
      exact ⟨a, by rw [hJ, d]⟩
  · left
    refine ⟨?_, ?_⟩
    · unfold mvTo
      simp only [el_no h1 h2, Bool.false_eq_true, if_false]
    · rw [hJ]
      rcases nx_cases hJ5 with h | h | h | h | h | h | h <;> obtain ⟨a, b, d⟩ := h
      · rw [a] at d ⊢; omega
      · rw [a] at d ⊢; omega
      · rw [a] at d ⊢; omega
      · rw [a] at d ⊢; omega
      · exact absurd (hc 101 b) h1
      · exact absurd (hc 108 b) h2
      · rw [a] at d ⊢; omega
end Go.Proofs.YtlkdmpfifpkpaaaGreatDoor
namespace Go.Proofs.YtlkdmpfifpkpaaaGreatDoor
open Go.RowKit

theorem mvTo_N (x : Ln) (k : Nat) (l : ByteArray) : (mvTo x k l).N = upd x.N k (stB (mvJ x k l)).n ∧ (mvTo x k l).I = upd x.I k (stB (mvJ x k l)).i ∧ (mvTo x k l).O = upd x.O k (stB (mvJ x k l)).o := ⟨rfl, rfl, rfl⟩
theorem sk_mv {x : Ln} {k : Nat} {l : ByteArray} (hJ : mvJ x k l < 5) (q : Nat) : sk (mvTo x k l) q = if q = k then mvJ x k l else sk x q := by
  obtain ⟨h1, h2, h3⟩ := mvTo_N x k l
  unfold sk
  rw [h1, h2, h3]
  unfold upd
  by_cases e : q = k
  · simp only [e, if_true]
    exact stI_stB hJ
  · simp only [e, if_false]
theorem I_mv {x : Ln} {k : Nat} {l : ByteArray} (hJ : mvJ x k l < 5) (q : Nat) : (mvTo x k l).I q = if q = k then decide (mvJ x k l = 3) else x.I q := by
  rw [(mvTo_N x k l).2.1]
  unfold upd
  by_cases e : q = k
  · simp only [e, if_true]
    exact stB_i hJ
  · simp only [e, if_false]
theorem cnOk_true {x : Ln} {k : Nat} : cnOk x k = true ↔ cntA x.T (2 * (k : Int) + 1) x.m = if x.I k = true then 1 else 0 := by
  simp [cnOk]
theorem vld_mv {x : Ln} {s : Int} {l : ByteArray} (hv : vldL x = true) (ho : mvOk x s l = true) : vldL (mvTo x s l) = true := by
  obtain ⟨k, rfl, hk, hJ, hkind⟩ := mv_kind ho
  obtain ⟨hn1, hn5, hm5, hpos, htr, hcn⟩ := vldL_true hv
  have hIk := sk_I hv hk
  refine vldL_of (inB_true.2 ⟨by show (1 : Int) ≤ (x.n : Int); omega, by show (x.n : Int) ≤ 5; omega⟩) hm5 ?_ ?_ ?_
  · intro q hq
    show decide (sk (mvTo x k l) q < 5) = true
    rw [sk_mv hJ]
    split
    · exact decide_eq_true hJ
    · exact decide_eq_true (sk_lt hv hq)
  · intro i hi
    have hi' : i < x.m := hi
    have h0 := trOk_true.1 (htr i hi')
    rw [trOk_true]
    show (0 ≤ (mvTo x k l).T i ∧ (mvTo x k l).T i ≤ 2 * (x.n : Int)) ∧ (i = 0 ∨ (mvTo x k l).T i ≤ (mvTo x k l).T (i - 1))
    rcases hkind with ⟨hT, _⟩ | ⟨j, hj, hTj, hb, hT, _⟩ | ⟨j, hj, hTj, hb, hT, _⟩
    · rw [hT]; exact h0
    · rw [hT]
      unfold upd
      by_cases e : i = j
      · subst e
        rw [if_pos rfl]
        refine ⟨by omega, ?_⟩
        rcases Nat.eq_zero_or_pos i with z | z
        · exact .inl z
        · right
          rw [if_neg (by omega)]
          have h1 := hb (i - 1) (by omega)
          have h2 := h0.2
          omega
      · rw [if_neg e]
        refine ⟨h0.1, ?_⟩
        rcases h0.2 with z | z
        · exact .inl z
        · right
          split
          · rename_i e2
            rw [e2, hTj] at z
            omega
          · exact z
    · rw [hT]
      unfold upd
      by_cases e : i = j
      · subst e
        rw [if_pos rfl]
        refine ⟨by omega, ?_⟩
        rcases Nat.eq_zero_or_pos i with z | z
        · exact .inl z
        · right
          rw [if_neg (by omega)]
          have h1 := hb (i - 1) (by omega)
          have h2 := h0.2
          omega
      · rw [if_neg e]
        refine ⟨h0.1, ?_⟩
        rcases h0.2 with z | z
        · exact .inl z
        · right
          split
          · rename_i e2
            rw [e2, hTj] at z
            omega
          · exact z
  · intro q hq
    have hq' : q < x.n := hq
    have h0 := cnOk_true.1 (hcn q hq')
    rw [cnOk_true, I_mv hJ]
    show cntA (mvTo x k l).T (2 * (q : Int) + 1) x.m = _
    rcases hkind with ⟨hT, hs3, hJ3⟩ | ⟨j, hj, hTj, hb, hT, hs, hJe⟩ | ⟨j, hj, hTj, hb, hT, hs, hJe⟩
    · rw [hT, h0]
      by_cases e : q = k
      · subst e
        rw [hIk, if_pos rfl]
        simp [hs3, hJ3]
      · rw [if_neg e]
    · rw [hT]
      have hu := cntA_upd (f := x.T) (v := 2 * (k : Int) + 1) (q := 2 * (q : Int) + 1) x.m hj
      rw [hTj, if_neg (show ¬ 2 * (k : Int) = 2 * (q : Int) + 1 by omega), h0] at hu
      by_cases e : q = k
      · subst e
        rw [hIk] at hu
        rw [if_pos rfl]
        simp [hs, hJe] at hu ⊢
        omega
      · rw [if_neg e]
        rw [if_neg (show ¬ 2 * (k : Int) + 1 = 2 * (q : Int) + 1 by omega)] at hu
        omega
    · rw [hT]
      have hu := cntA_upd (f := x.T) (v := 2 * (k : Int) + 1 + 1) (q := 2 * (q : Int) + 1) x.m hj
      rw [hTj, h0] at hu
      by_cases e : q = k
      · subst e
        rw [hIk, if_neg (show ¬ 2 * (q : Int) + 1 + 1 = 2 * (q : Int) + 1 by omega)] at hu
        rw [if_pos rfl]
        simp [hs, hJe] at hu ⊢
        omega
      · rw [if_neg e]
        rw [if_neg (show ¬ 2 * (k : Int) + 1 = 2 * (q : Int) + 1 by omega), if_neg (show ¬ 2 * (k : Int) + 1 + 1 = 2 * (q : Int) + 1 by omega)] at hu
        omega
end Go.Proofs.YtlkdmpfifpkpaaaGreatDoor
namespace Go.Proofs.YtlkdmpfifpkpaaaGreatDoor
open Go.RowKit

/-- a move that leaves fewer moves -/
def nrB (x : Ln) (y : Int × ByteArray) : Bool := mvOk x y.1 y.2 && decide (lefS (mvTo x y.1 y.2) x.n < lefS x x.n)
def nearM (x : Ln) : Option (Int × ByteArray) := (mvsL x).find? (nrB x)
/-- the boxes of nextNearer -/
structure NnM (w wr : World) (r : Nat) : Prop where
  b1 : Bx wr w.heap.size 174 #[.pointer (some ⟨r, 0, none⟩)]
  b2 : Bx wr (w.heap.size + 1) 174 #[.pointer none]
  b3 : Bx wr (w.heap.size + 1 + 1) 94 #[.int .i64 0, .string ⟨#[]⟩]
  b4 : Bx wr (w.heap.size + 1 + 1 + 1) 4 #[.bool false]
  bl : Below w.heap.size w wr
theorem NnM.below {w wr w' : World} {r : Nat} (h : NnM w wr r) (hb : Below wr.heap.size wr w') : NnM w w' r :=
  ⟨h.b1.below hb h.b1.lt, h.b2.below hb h.b2.lt, h.b3.below hb h.b3.lt, h.b4.below hb h.b4.lt, h.bl.trans (hb.mono h.bl.size)⟩
/-- between two rounds of nextNearer's loop -/
structure NnI (w w3 : World) (r B5 : Nat) (x : Ln) (pre : List (Int × ByteArray)) (W : World) : Prop where
  no : ∀ z, z ∈ pre → nrB x z = false
  nn : NnM w W r
  lf : Bx W B5 3 #[.int .i64 (lefS x x.n)]
  bl : Below w3.heap.size w3 W
theorem NnI.below {w w3 W W' : World} {r B5 : Nat} {x : Ln} {pre : List (Int × ByteArray)} (h : NnI w w3 r B5 x pre W) (hb : Below W.heap.size W W') : NnI w w3 r B5 x pre W' :=
  ⟨h.no, h.nn.below hb, h.lf.below hb h.lf.lt, h.bl.trans (hb.mono h.bl.size)⟩
theorem NnI.next {w w3 W W' : World} {r B5 : Nat} {x : Ln} {pre : List (Int × ByteArray)} {y : Int × ByteArray} (h : NnI w w3 r B5 x pre W) (hb : Below W.heap.size W W') (hy : nrB x y = false) : NnI w w3 r B5 x (pre ++ [y]) W' := by
  have h2 := h.below hb
  exact ⟨fun z hz => by
    rcases List.mem_append.1 hz with hz | hz
    · exact h.no z hz
    · rw [List.mem_singleton.1 hz]; exact hy, h2.nn, h2.lf, h2.bl⟩
theorem own_notrow {W : World} {g cap n s B : Nat} {t : TypeId} {f : Nat → Value} {row : Option Nat} (h : Own W g cap n s t f) (hr : ∀ r, row = some r → B ≤ r ∧ ∃ o : Obj, W.heap[r]? = some o ∧ o.isCells = false) : row ≠ some g := fun e => by
  obtain ⟨_, o, ho, hc⟩ := hr g e
  obtain ⟨_, _, cur, hg, _⟩ := h
  rw [hg] at ho
  cases ho
  cases hc
theorem below_gr {B R : Nat} {w0 w w' : World} {row : Option Nat} (h : Below B w0 w) (hg : w.grownBy w' row) (hr : ∀ c, row = some c → R ≤ c ∧ ∃ o : Obj, w.heap[c]? = some o ∧ o.isCells = false) (hR : B ≤ R) (hB : B ≤ w0.heap.size) : Below B w0 w' := by
  refine h.trans ⟨hg.os, hg.tape, hg.output, hg.size, fun k hk => hg.block k (Nat.lt_of_lt_of_le hk (Nat.le_trans hB h.size)) (fun e => ?_)⟩
  have := (hr k e.symm).1
  omega
theorem Bx.gr {W W' : World} {b B : Nat} {t : TypeId} {cs : Array Value} {row : Option Nat} (h : Bx W b t cs) (hg : W.grownBy W' row) (hr : ∀ r, row = some r → B ≤ r ∧ ∃ o : Obj, W.heap[r]? = some o ∧ o.isCells = false) : Bx W' b t cs := h.of_block (hg.block b h.lt (fun e => bx_notrow h hr e.symm))
theorem Own.gr {W W' : World} {g cap n s B : Nat} {t : TypeId} {f : Nat → Value} {row : Option Nat} (h : Own W g cap n s t f) (hg : W.grownBy W' row) (hr : ∀ r, row = some r → B ≤ r ∧ ∃ o : Obj, W.heap[r]? = some o ∧ o.isCells = false) : Own W' g cap n s t f := h.of_block (hg.block g h.lt (fun e => own_notrow h hr e.symm))
theorem NnM.gr {w wr w' : World} {r B : Nat} {row : Option Nat} (h : NnM w wr r) (hg : wr.grownBy w' row) (hr : ∀ c, row = some c → B ≤ c ∧ ∃ o : Obj, wr.heap[c]? = some o ∧ o.isCells = false) (hB : w.heap.size ≤ B) : NnM w w' r :=
  ⟨h.b1.gr hg hr, h.b2.gr hg hr, h.b3.gr hg hr, h.b4.gr hg hr, below_gr h.bl hg hr hB (Nat.le_refl _)⟩
theorem RwC.gr {w w' : World} {r gb cb gt ct B : Nat} {x : Ln} {row : Option Nat} (h : RwC w r gb cb gt ct x) (hg : w.grownBy w' row) (hr : ∀ c, row = some c → B ≤ c ∧ ∃ o : Obj, w.heap[c]? = some o ∧ o.isCells = false) : RwC w' r gb cb gt ct x :=
  ⟨h.box.gr hg hr, h.bs.gr hg hr, h.ts.gr hg hr, h.d1, h.d2, h.d3⟩
attribute [local go_sem] Oper.semAt_some
end Go.Proofs.YtlkdmpfifpkpaaaGreatDoor
namespace Go.Proofs.YtlkdmpfifpkpaaaGreatDoor
open Go.RowKit

/-- moves that make a line done, at most f of them -/
def finL : Nat → Ln → List (Int × ByteArray)
  | 0, _ => []
  | f + 1, x => if 0 < lefS x x.n then (match nearM x with | some y => y :: finL f (mvTo x y.1 y.2) | none => []) else []
def finX (x : Ln) : List (Int × ByteArray) := finL (lefS x x.n).toNat x
theorem RwC.kept {w w' : World} {r gb cb gt ct R : Nat} {x : Ln} (h : RwC w r gb cb gt ct x) (hg : w.grownBy w' (some R)) (h1 : r ≠ R) (h2 : gb ≠ R) (h3 : gt ≠ R) : RwC w' r gb cb gt ct x :=
  ⟨h.box.kept hg h1, h.bs.kept hg (by simpa using h2), h.ts.kept hg (by simpa using h3), h.d1, h.d2, h.d3⟩
/-- between two rounds of LineFinish's loop -/
structure FnI (w wr : World) (r gb cb gt ct g cap : Nat) (x y : Ln) (pre : List (Int × ByteArray)) : Prop where
  rw : RwC wr r gb cb gt ct y
  ow : OwnMs wr g cap pre
  gz : w.heap.size ≤ g
  vl : vldL y = true
  fx : pre ++ finX y = finX x
  ln : pre.length + (lefS y y.n).toNat ≤ 135
  bl : Below w.heap.size w wr
theorem FnI.below {w wr w' : World} {r gb cb gt ct g cap : Nat} {x y : Ln} {pre : List (Int × ByteArray)} (h : FnI w wr r gb cb gt ct g cap x y pre) (hb : Below wr.heap.size wr w') : FnI w w' r gb cb gt ct g cap x y pre :=
  ⟨h.rw.below hb (Nat.le_refl _), Own.below h.ow hb (Own.lt h.ow), h.gz, h.vl, h.fx, h.ln, h.bl.trans (hb.mono h.bl.size)⟩
end Go.Proofs.YtlkdmpfifpkpaaaGreatDoor
namespace Go.Proofs.YtlkdmpfifpkpaaaGreatDoor
open Go.RowKit

theorem railway_at {bb bo cb tb tu ct : Nat} {x : Ln} {w : World} (hn : x.n ≤ 1000000000000) (hm : x.m ≤ 1000000000000) (hbk : BkC w bb bo x.n x.N x.I x.O) (hic : IC w tb tu x.m x.T) :
    ∀ w', Below w.heap.size w w' → Calls Tryz.prog 141 #[.agg #[.slice (some ⟨bb, bo, none⟩) x.n cb, .slice (some ⟨tb, tu, none⟩) x.m ct]] w' (RwO x w') := fun w' hb => railwayOf_any bb bo cb tb tu ct x w' hn hm (hbk.keep hb) (hic.keep hb)
def stO (x : Ln) (s : Int) (l : ByteArray) : Option Ln := if vldL x = true then stepO x s l else none
set_option linter.unusedSimpArgs false in
set_option maxHeartbeats 2000000 in
theorem lineStep_any (bb bo cb tb tu ct : Nat) (x : Ln) (s : Int) (l : ByteArray) (w : World) (hn : x.n ≤ 1000000000000) (hm : x.m ≤ 1000000000000) (hbk : BkC w bb bo x.n x.N x.I x.O) (hic : IC w tb tu x.m x.T) :
    Calls Tryz.prog 121 #[.agg #[.slice (some ⟨bb, bo, none⟩) x.n cb, .slice (some ⟨tb, tu, none⟩) x.m ct], .agg #[.int .i64 s, .string l]] w (LrR (stO x s l) w) := by
  have HBB : Hid (∀ a b c, Below w.heap.size w (((w.alloc a).alloc b).alloc c)) := fun a b c => ((below_all _ _).alloc (by simp) _).alloc (by simp; omega) _
  have HRW := Lib.hid (railway_at (cb := cb) (ct := ct) hn hm hbk hic)
  clear hbk hic
  go_enter Tryz.func121, Tryz.ntmps121
  go_wp2_with fail
  refine (HRW.out _ (HBB.out _ _ _)).mono ?_
  rintro e w1 ⟨hb1, h1⟩
  have HX1 : Hid (Bx w1 (w.heap.size + 1 + 1) 31 #[.slice none 0 0, .slice none 0 0]) := (Bx.newAt (by simp)).below hb1 (by simp)
  have HM1 : Hid (Bx w1 (w.heap.size + 1) 94 #[.int .i64 s, .string l]) := ((Bx.newAt (by simp)).alloc _).below hb1 (by simp)
  have HB1 : Hid (Below w.heap.size w w1) := (HBB.out _ _ _).trans (hb1.mono (by simp; omega))
  have hrc := HX1.out.cell
  have hrf := HX1.out.free
  have hmc := HM1.out.cell
  have hxl := HX1.out.lt
  rcases h1 with ⟨hv, s', rfl, hs⟩ | ⟨hv, rfl⟩
  · obtain ⟨r, gb, cb', gt, ct', rfl, hrw, k1, k2, k3⟩ := hs
    simp only [World.size_alloc] at k1 k2 k3
    have HR := Lib.hid hrw
    have HV : Hid (stO x s l = stepO x s l) := if_pos hv
    have hMO := move_any (w.heap.size + 1 + 1 + 1) r gb cb' gt ct' x s l w1 hn hm hrw ⟨by omega, by omega, by omega⟩
    have HMO := Lib.hid hMO
    clear hb1 hv hrw hMO
    cases ho : mvOk x s l
    · have HO := Lib.hid ho
      have HN : Hid (stO x s l = none) := by show _ = _; rw [HV.out]; unfold stepO; rw [ho]; rfl
      clear ho
      go_wp2_with fail
      refine HMO.out.mono ?_
      rintro e w2 ⟨rfl, hr2, hb2⟩
      rw [HO.out]
      have HX2 := Lib.hid (HX1.out.below hb2 (by omega))
      have HB2 : Hid (Below w.heap.size w w2) := HB1.out.trans (hb2.mono (by omega))
      clear hr2 hb2 hrc hrf hmc
      have hrc := HX2.out.cell
      have hrf := HX2.out.free
      go_wp2_with fail
      exact bodyPost_ret (v := .tuple #[nilLn, .bool false]) (by simp [results, Tryz.results121, go_sem, hrc, nilLn]) rfl ⟨(HB2.out.setCell (by dsimp only; omega) _).setCell (by dsimp only; omega) _, .inl ⟨HN.out, rfl⟩⟩
    · have HO := Lib.hid ho
      have HN : Hid (stO x s l = some (mvTo x s l)) := by show _ = _; rw [HV.out]; unfold stepO; rw [ho]; rfl
      clear ho
      go_wp2_with fail
      refine HMO.out.mono ?_
      rintro e w2 ⟨rfl, hr2, hb2⟩
      rw [HO.out]
      rw [HO.out, if_pos rfl] at hr2
      have HR2 := Lib.hid hr2
      have HX2 := Lib.hid (HX1.out.below hb2 (by omega))
      have HB2 : Hid (Below w.heap.size w w2) := HB1.out.trans (hb2.mono (by omega))
      clear hr2 hb2 hrc hrf hmc
      have HLI : Hid (Calls Tryz.prog 143 #[.pointer (some ⟨r, 0, none⟩)] w2 fun e w' => ∃ v, e = .returned v ∧ LnO w2.heap.size w' v (mvTo x s l) ∧ Below w2.heap.size w2 w') := line_any r gb cb' gt ct' (mvTo x s l) _ hn hm HR2.out
      go_wp2_with fail
      refine HLI.out.mono ?_
      rintro e w3 ⟨v, rfl, hl, hb⟩
      have HL3 := Lib.hid hl
      have HX3 := Lib.hid (HX2.out.below hb HX2.out.lt)
      have hz3 := HX2.out.lt
      have HB3 := Lib.hid (HB2.out.trans (hb.mono HB2.out.size))
      obtain ⟨g1, c1, g2, c2, rfl, _⟩ := hl
      clear hb
      have hrc := HX3.out.cell
      have hrf := HX3.out.free
      go_wp2_with fail
      refine bodyPost_ret (v := .tuple #[.agg #[.slice (some ⟨g1, 0, none⟩) (mvTo x s l).n c1, .slice (some ⟨g2, 0, none⟩) (mvTo x s l).m c2], .bool true]) (by simp [results, Tryz.results121, go_sem, hrc]) rfl ⟨(HB3.out.setCell (by dsimp only; omega) _).setCell (by dsimp only; omega) _, .inr ⟨mvTo x s l, _, HN.out, rfl, (((HL3.out.mono (D := w.heap.size + 3) (by omega)).setOther (by omega) _).setOther (by omega) _).mono (by omega)⟩⟩
  · have HN : Hid (stO x s l = none) := by show _ = _; unfold stO; rw [hv]; rfl
    clear hv hb1
    go_wp2_with fail
    exact bodyPost_ret (v := .tuple #[nilLn, .bool false]) (by simp [results, Tryz.results121, go_sem, hrc, nilLn]) rfl ⟨(HB1.out.setCell (by dsimp only; omega) _).setCell (by dsimp only; omega) _, .inl ⟨HN.out, rfl⟩⟩
end Go.Proofs.YtlkdmpfifpkpaaaGreatDoor
namespace Go.Proofs.YtlkdmpfifpkpaaaGreatDoor
open Go.RowKit

theorem BkC.setOther {w : World} {b off n : Nat} {N : Nat → Int} {I O : Nat → Bool} (h : BkC w b off n N I O) {a : Addr} (ha : b ≠ a.block) (v : Value) : BkC (w.setCell a v) b off n N I O := fun k hk => by
  obtain ⟨h1, h2, h3⟩ := h k hk
  have e : ∀ o, (w.setCell a v).cell? ⟨b, o, none⟩ = w.cell? ⟨b, o, none⟩ := fun o => World.cell?_of_block (w := w) (Below.heap_setCell _ _ _ _ ha)
  exact ⟨by rw [e]; exact h1, by rw [e]; exact h2, by rw [e]; exact h3⟩
theorem IC.setOther {w : World} {b off n : Nat} {f : Nat → Int} (h : IC w b off n f) {a : Addr} (ha : b ≠ a.block) (v : Value) : IC (w.setCell a v) b off n f := fun k hk => by
  have e : ∀ o, (w.setCell a v).cell? ⟨b, o, none⟩ = w.cell? ⟨b, o, none⟩ := fun o => World.cell?_of_block (w := w) (Below.heap_setCell _ _ _ _ ha)
  rw [e]; exact h k hk
/-- between two rounds of the reference's LineFinish -/
structure FsI (w wr : World) (b o c b2 o2 c2 g cap : Nat) (x y : Ln) (pre : List (Int × ByteArray)) : Prop where
  arg : Bx wr w.heap.size 31 #[.slice (some ⟨b, o, none⟩) y.n c, .slice (some ⟨b2, o2, none⟩) y.m c2]
  bk : BkC wr b o y.n y.N y.I y.O
  ic : IC wr b2 o2 y.m y.T
  lb : b < wr.heap.size
  lb2 : b2 < wr.heap.size
  nb : b ≠ w.heap.size
  nb2 : b2 ≠ w.heap.size
  ow : OwnMs wr g cap pre
  gz : w.heap.size < g
  vl : vldL y = true
  fx : pre ++ finX y = finX x
  ln : pre.length + (lefS y y.n).toNat ≤ 135
  bl : Below w.heap.size w wr
theorem FsI.below {w wr w' : World} {b o c b2 o2 c2 g cap : Nat} {x y : Ln} {pre : List (Int × ByteArray)} (h : FsI w wr b o c b2 o2 c2 g cap x y pre) (hb : Below wr.heap.size wr w') : FsI w w' b o c b2 o2 c2 g cap x y pre :=
  ⟨h.arg.below hb h.arg.lt, h.bk.keep hb, h.ic.keep hb, Nat.lt_of_lt_of_le h.lb hb.size, Nat.lt_of_lt_of_le h.lb2 hb.size, h.nb, h.nb2, Own.below h.ow hb (Own.lt h.ow), h.gz, h.vl, h.fx, h.ln, h.bl.trans (hb.mono h.bl.size)⟩
/-- a row of moves that is read -/
structure MsI (wr : World) (bm mo cm : Nat) (ms : List (Int × ByteArray)) : Prop where
  mv : MvsC wr bm mo ms.length (mvM ms) (mvS ms)
theorem MsI.below {wr w' : World} {bm mo cm : Nat} {ms : List (Int × ByteArray)} (h : MsI wr bm mo cm ms) (hb : Below wr.heap.size wr w') : MsI w' bm mo cm ms := ⟨h.mv.keep hb⟩
end Go.Proofs.YtlkdmpfifpkpaaaGreatDoor
namespace Go.Proofs.YtlkdmpfifpkpaaaGreatDoor
open Go.RowKit

/-- a new line -/
def newL (n m : Nat) : Ln := { n := n, N := fun _ => 0, I := fun _ => false, O := fun _ => false, m := m, T := fun _ => 0 }
def nwO (n t : Int) : Option Ln := if inB n 1 5 && inB t 0 5 then some (newL n.toNat t.toNat) else none
theorem nwO_yes {n t : Nat} (h1 : inB n 1 5 = true) (h2 : inB t 0 5 = true) : nwO n t = some (newL n t) := by
  unfold nwO
  rw [h1, h2]
  rfl
theorem nwO_n {n t : Int} (h1 : inB n 1 5 = false) : nwO n t = none := by
  unfold nwO
  rw [h1]
  rfl
theorem nwO_t {n t : Int} (h1 : inB t 0 5 = false) : nwO n t = none := by
  unfold nwO
  rw [h1, Bool.and_false]
  rfl
/-- behind the two rows of a new line -/
theorem nw_done {w wr : World} {g1 g2 n m : Nat} (h1 : Own wr g1 n n 3 76 (bkF (newL n m).N (newL n m).I (newL n m).O)) (h2 : Own wr g2 m m 1 3 (fun _ => .int .i64 0)) (hg : g1 ≠ g2) (h3 : w.heap.size + 1 ≤ g1) (h4 : w.heap.size + 1 ≤ g2) (hb : Below w.heap.size w wr) (n' t' : Int) (ho : nwO n' t' = some (newL n m)) :
    LrR (nwO n' t') w (.returned (.tuple #[.agg #[.slice (some ⟨g1, 0, none⟩) n n, .slice (some ⟨g2, 0, none⟩) m m], .bool true])) wr :=
  ⟨hb, .inr ⟨newL n m, _, ho, rfl, g1, n, g2, m, rfl, h1, h2, hg, by omega, by omega⟩⟩
theorem nw_two {w W : World} {z : Nat} (hz : z = W.heap.size) (hB : Below w.heap.size w W) (hs : w.heap.size + 1 ≤ W.heap.size) (n m : Nat) (hn : n ≤ 5) (hm : m ≤ 5) :
    Own ((W.alloc (.cells (madeCells #[.int .i64 0, .bool false, .bool false] (n * 3)) 76)).alloc (.cells (madeCells #[.int .i64 0] m) 3)) z n n 3 76 (bkF (newL n m).N (newL n m).I (newL n m).O) ∧
    Own ((W.alloc (.cells (madeCells #[.int .i64 0, .bool false, .bool false] (n * 3)) 76)).alloc (.cells (madeCells #[.int .i64 0] m) 3)) (z + 1) m m 1 3 (fun _ => .int .i64 0) ∧
    Below w.heap.size w ((W.alloc (.cells (madeCells #[.int .i64 0, .bool false, .bool false] (n * 3)) 76)).alloc (.cells (madeCells #[.int .i64 0] m) 3)) := by
  subst hz
  refine ⟨(own_bk0 W n (by omega)).alloc _, ?_, (hB.alloc (by omega) _).alloc (by simp; omega) _⟩
  have h := own_full1 (W.alloc (.cells (madeCells #[.int .i64 0, .bool false, .bool false] (n * 3)) 76)) (.int .i64 0) m 3 (by unfold maxLen; omega)
  rw [World.size_alloc] at h
  exact h
theorem nw_two' {w W : World} {z : Nat} (hz : z = W.heap.size) (hB : Below w.heap.size w W) (hs : w.heap.size + 1 ≤ W.heap.size) (n m : Nat) (hn : n ≤ 5) (hm : m ≤ 5) :
    Own ((W.alloc (.cells (madeCells #[.int .i64 0] m) 3)).alloc (.cells (madeCells #[.int .i64 0, .bool false, .bool false] (n * 3)) 76)) (z + 1) n n 3 76 (bkF (newL n m).N (newL n m).I (newL n m).O) ∧
    Own ((W.alloc (.cells (madeCells #[.int .i64 0] m) 3)).alloc (.cells (madeCells #[.int .i64 0, .bool false, .bool false] (n * 3)) 76)) z m m 1 3 (fun _ => .int .i64 0) ∧
    Below w.heap.size w ((W.alloc (.cells (madeCells #[.int .i64 0] m) 3)).alloc (.cells (madeCells #[.int .i64 0, .bool false, .bool false] (n * 3)) 76)) := by
  subst hz
  refine ⟨?_, (own_full1 W (.int .i64 0) m 3 (by unfold maxLen; omega)).alloc _, (hB.alloc (by omega) _).alloc (by simp; omega) _⟩
  have h := own_bk0 (W.alloc (.cells (madeCells #[.int .i64 0] m) 3)) n (by omega)
  rw [World.size_alloc] at h
  exact h
set_option linter.unusedSimpArgs false in
set_option maxHeartbeats 2000000 in
theorem lineNew_any (n t : Int) (w : World) (hn : -9223372036854775808 ≤ n ∧ n ≤ 9223372036854775807) :
    Calls Tryz.prog 16 #[.int .i64 n, .int .i64 t] w (LrR (nwO n t) w) := by
  have HBB : Hid (∀ a, Below w.heap.size w (w.alloc a)) := fun a => below_all _ _
  have hbx : ∀ o, (w.alloc (.cells #[.slice none 0 0, .slice none 0 0] 31)).cell? ⟨w.heap.size, o, none⟩ = (#[.slice none 0 0, .slice none 0 0] : Array Value)[o]? := box_new _ _ _
  have HSV := fun W => Lib.hid (sectionsValid_any n W hn)
  cases h1 : inB n 1 5
  · have HV := Lib.hid (nwO_n (t := t) h1)
    have H1 := Lib.hid h1
    clear h1 hn
    go_enter Tryz.func16, Tryz.ntmps16
    go_wp2_with fail
    refine (HSV _).out.mono ?_
    rintro e w' ⟨rfl, rfl⟩
    rw [H1.out]
    go_wp2_with fail
    exact bodyPost_ret (v := .tuple #[nilLn, .bool false]) (by simp [results, Tryz.results16, go_sem, hbx, nilLn]) rfl ⟨HBB.out _, .inl ⟨HV.out, rfl⟩⟩
  · have h1' := inB_true.1 h1
    have H1 := Lib.hid h1
    clear h1
    by_cases h2 : t < 0
    · have HV := Lib.hid (nwO_t (n := n) (inB_false.2 (by omega) : inB t 0 5 = false))
      clear hn
      go_enter Tryz.func16, Tryz.ntmps16
      go_wp2_with fail
      refine (HSV _).out.mono ?_
      rintro e w' ⟨rfl, rfl⟩
      rw [H1.out]
      go_wp2_with fail
      exact bodyPost_ret (v := .tuple #[nilLn, .bool false]) (by simp [results, Tryz.results16, go_sem, hbx, nilLn]) rfl ⟨HBB.out _, .inl ⟨HV.out, rfl⟩⟩
    by_cases h3 : 5 < t
    · have HV := Lib.hid (nwO_t (n := n) (inB_false.2 (by omega) : inB t 0 5 = false))
      clear hn
      go_enter Tryz.func16, Tryz.ntmps16
      go_wp2_with fail
      refine (HSV _).out.mono ?_
      rintro e w' ⟨rfl, rfl⟩
      rw [H1.out]
      go_wp2_with fail
      exact bodyPost_ret (v := .tuple #[nilLn, .bool false]) (by simp [results, Tryz.results16, go_sem, hbx, nilLn]) rfl ⟨HBB.out _, .inl ⟨HV.out, rfl⟩⟩
    obtain ⟨n, rfl⟩ := Int.eq_ofNat_of_zero_le (show 0 ≤ n by omega)
    obtain ⟨t, rfl⟩ := Int.eq_ofNat_of_zero_le (show 0 ≤ t by omega)
    have HV := Lib.hid (nwO_yes (n := n) (t := t) (inB_true.2 (by omega)) (inB_true.2 (by omega)))
    have hmkb := fun w => run_mk elBk n n (Nat.le_refl _) (by omega) (by omega) w
    have hmki := fun w => run_mk elInt t t (Nat.le_refl _) (by omega) (by omega) w
    simp only [Nat.mul_one] at hmki
    clear hn
    go_enter Tryz.func16, Tryz.ntmps16
    go_wp2_with fail
    refine (HSV _).out.mono ?_
    rintro e w' ⟨rfl, rfl⟩
    rw [H1.out]
    obtain ⟨W0, hW0⟩ : ∃ W0, W0 = (w.alloc (.cells #[.slice none 0 0, .slice none 0 0] 31)).drew := ⟨_, rfl⟩
    have hr0 : ∀ o, W0.cell? ⟨w.heap.size, o, none⟩ = (#[.slice none 0 0, .slice none 0 0] : Array Value)[o]? := by rw [hW0]; exact box_new _ _ _
    have hrf : ∀ o, W0.frozen? ⟨w.heap.size, o, none⟩ = false := by rw [hW0]; exact (Bx.new w 31 #[.slice none 0 0, .slice none 0 0]).free
    have hrs : w.heap.size < W0.heap.size := by rw [hW0]; simp
    have HB0 : Hid (Below w.heap.size w W0) := by rw [hW0]; exact (below_all w (.cells #[.slice none 0 0, .slice none 0 0] 31)).drew
    go_wp2_with fail
    refine wp_region_held_drew (S := (fun _ => True)) (by kernel_rfl) trivial (fun hHeld => ?_)
    rw [← hW0]
    clear hW0
    refine wpAnyH_take (i := 0) (oi := ?_) (v := ?_) ?_ (by kernel_rfl) (by kernel_rfl) (by kernel_rfl) ?_ ?_ (by assumption) ?_
    rotate_left 2
    · simp only [List.getElem?_toArray, List.getElem?_cons_succ, List.getElem?_cons_zero]; rfl
    · exact fun _ _ _ h => h
    · first
        | (refine Or.inr ⟨?_, ?_⟩ <;> rfl)
        | (refine Or.inl ⟨?_, ?_⟩; · rfl
           intro w hSw; (try dsimp only at hSw); go_simp; (try with_reducible rfl); done)
    try simp only [Act.put, List.setIfInBounds_toArray, List.set_cons_zero, List.set_cons_succ]
    refine wpAnyH_take (i := 2) (oi := ?_) (v := ?_) ?_ (by kernel_rfl) (by kernel_rfl) (by kernel_rfl) ?_ ?_ (by assumption) ?_
    rotate_left 2
    · simp only [List.getElem?_toArray, List.getElem?_cons_succ, List.getElem?_cons_zero]; rfl
    · exact fun _ _ _ h => h
    · first
        | (refine Or.inr ⟨?_, ?_⟩ <;> rfl)
        | (refine Or.inl ⟨?_, ?_⟩; · rfl
           intro w hSw; (try dsimp only at hSw); go_simp; (try with_reducible rfl); done)
    try simp only [Act.put, List.setIfInBounds_toArray, List.set_cons_zero, List.set_cons_succ]
    refine wpAnyH_ready (rs := [1, 3]) (by kernel_rfl) (by simp) ?_
    refine AllReadyH.cons (o := ?_) ?_ (fun K hK => ?_) ?_
    rotate_left 1
    · simp only [List.getElem?_toArray, List.getElem?_cons_succ, List.getElem?_cons_zero]; rfl
    · go_simp
      refine hK.out _ _ ?_ (fun hHeld => ?_)
      · exact trivial
      clear hK K
      try simp only [Act.put, List.setIfInBounds_toArray, List.set_cons_zero, List.set_cons_succ]
      refine wpAnyH_ready (rs := [3]) (by kernel_rfl) (by simp) ?_
      refine AllReadyH.cons (o := ?_) ?_ (fun K hK => ?_) AllReadyH.nil
      rotate_left 1
      · simp only [List.getElem?_toArray, List.getElem?_cons_succ, List.getElem?_cons_zero]; rfl
      go_simp
      refine hK.out _ _ ?_ (fun hHeld => ?_)
      · exact trivial
      clear hK K
      try simp only [Act.put, List.setIfInBounds_toArray, List.set_cons_zero, List.set_cons_succ]
      refine wpAnyH_take (i := 4) (oi := ?_) (v := ?_) ?_ (by kernel_rfl) (by kernel_rfl) (by kernel_rfl) ?_ ?_ (by assumption) ?_
      rotate_left 2
      · simp only [List.getElem?_toArray, List.getElem?_cons_succ, List.getElem?_cons_zero]; rfl
      · exact fun _ _ _ h => h
      · first
          | (refine Or.inr ⟨?_, ?_⟩ <;> rfl)
          | (refine Or.inl ⟨?_, ?_⟩; · rfl
             intro w hSw; (try dsimp only at hSw); go_simp; (try with_reducible rfl); done)
      try simp only [Act.put, List.setIfInBounds_toArray, List.set_cons_zero, List.set_cons_succ]
      refine wpAnyH_ready (rs := [5]) (by kernel_rfl) (by simp) ?_
      refine AllReadyH.cons (o := ?_) ?_ (fun K hK => ?_) AllReadyH.nil
      rotate_left 1
      · simp only [List.getElem?_toArray, List.getElem?_cons_succ, List.getElem?_cons_zero]; rfl
      go_simp
      refine hK.out _ _ ?_ (fun hHeld => ?_)
      · exact trivial
      clear hK K
      try simp only [Act.put, List.setIfInBounds_toArray, List.set_cons_zero, List.set_cons_succ]
      refine wpAnyH_take (i := 6) (oi := ?_) (v := ?_) ?_ (by kernel_rfl) (by kernel_rfl) (by kernel_rfl) ?_ ?_ (by assumption) ?_
      rotate_left 2
      · simp only [List.getElem?_toArray, List.getElem?_cons_succ, List.getElem?_cons_zero]; rfl
      · exact fun _ _ _ h => h
      · first
          | (refine Or.inr ⟨?_, ?_⟩ <;> rfl)
          | (refine Or.inl ⟨?_, ?_⟩; · rfl
             intro w hSw; (try dsimp only at hSw); go_simp; (try with_reducible rfl); done)
      try simp only [Act.put, List.setIfInBounds_toArray, List.set_cons_zero, List.set_cons_succ]
      refine wpAnyH_done (by kernel_rfl) ?_ _
      go_wp2_with fail
      refine bodyPost_ret (v := .tuple #[.agg #[.slice (some ⟨W0.heap.size, 0, none⟩) n n, .slice (some ⟨W0.heap.size + 1, 0, none⟩) t t], .bool true]) (by simp [results, Tryz.results16, Tryz.results17, go_sem, hr0, hrs]) rfl ?_
      obtain ⟨h1, h2, h3⟩ := nw_two (w := w) (W := (W0.setCell ⟨w.heap.size, 0, none⟩ (.slice (some ⟨W0.heap.size, 0, none⟩) n n)).setCell ⟨w.heap.size, 1, none⟩ (.slice (some ⟨W0.heap.size + 1, 0, none⟩) t t)) (z := W0.heap.size) (by simp) ((HB0.out.setCell (Nat.le_refl _) _).setCell (Nat.le_refl _) _) (by simp; omega) n t (by omega) (by omega)
      exact nw_done h1 h2 (by omega) (by omega) (by omega) h3 _ _ HV.out
    · refine AllReadyH.cons (o := ?_) ?_ (fun K hK => ?_) ?_
      rotate_left 1
      · simp only [List.getElem?_toArray, List.getElem?_cons_succ, List.getElem?_cons_zero]; rfl
      · go_simp
        refine hK.out _ _ ?_ (fun hHeld => ?_)
        · exact trivial
        clear hK K
        try simp only [Act.put, List.setIfInBounds_toArray, List.set_cons_zero, List.set_cons_succ]
        refine wpAnyH_ready (rs := [1]) (by kernel_rfl) (by simp) ?_
        refine AllReadyH.cons (o := ?_) ?_ (fun K hK => ?_) AllReadyH.nil
        rotate_left 1
        · simp only [List.getElem?_toArray, List.getElem?_cons_succ, List.getElem?_cons_zero]; rfl
        go_simp
        refine hK.out _ _ ?_ (fun hHeld => ?_)
        · exact trivial
        clear hK K
        try simp only [Act.put, List.setIfInBounds_toArray, List.set_cons_zero, List.set_cons_succ]
        refine wpAnyH_take (i := 4) (oi := ?_) (v := ?_) ?_ (by kernel_rfl) (by kernel_rfl) (by kernel_rfl) ?_ ?_ (by assumption) ?_
        rotate_left 2
        · simp only [List.getElem?_toArray, List.getElem?_cons_succ, List.getElem?_cons_zero]; rfl
        · exact fun _ _ _ h => h
        · first
            | (refine Or.inr ⟨?_, ?_⟩ <;> rfl)
            | (refine Or.inl ⟨?_, ?_⟩; · rfl
               intro w hSw; (try dsimp only at hSw); go_simp; (try with_reducible rfl); done)
        try simp only [Act.put, List.setIfInBounds_toArray, List.set_cons_zero, List.set_cons_succ]
        refine wpAnyH_ready (rs := [5]) (by kernel_rfl) (by simp) ?_
        refine AllReadyH.cons (o := ?_) ?_ (fun K hK => ?_) AllReadyH.nil
        rotate_left 1
        · simp only [List.getElem?_toArray, List.getElem?_cons_succ, List.getElem?_cons_zero]; rfl
        go_simp
        refine hK.out _ _ ?_ (fun hHeld => ?_)
        · exact trivial
        clear hK K
        try simp only [Act.put, List.setIfInBounds_toArray, List.set_cons_zero, List.set_cons_succ]
        refine wpAnyH_take (i := 6) (oi := ?_) (v := ?_) ?_ (by kernel_rfl) (by kernel_rfl) (by kernel_rfl) ?_ ?_ (by assumption) ?_
        rotate_left 2
        · simp only [List.getElem?_toArray, List.getElem?_cons_succ, List.getElem?_cons_zero]; rfl
        · exact fun _ _ _ h => h
        · first
            | (refine Or.inr ⟨?_, ?_⟩ <;> rfl)
            | (refine Or.inl ⟨?_, ?_⟩; · rfl
               intro w hSw; (try dsimp only at hSw); go_simp; (try with_reducible rfl); done)
        try simp only [Act.put, List.setIfInBounds_toArray, List.set_cons_zero, List.set_cons_succ]
        refine wpAnyH_done (by kernel_rfl) ?_ _
        go_wp2_with fail
        refine bodyPost_ret (v := .tuple #[.agg #[.slice (some ⟨W0.heap.size + 1, 0, none⟩) n n, .slice (some ⟨W0.heap.size, 0, none⟩) t t], .bool true]) (by simp [results, Tryz.results16, Tryz.results17, go_sem, hr0, hrs]) rfl ?_
        obtain ⟨h1, h2, h3⟩ := nw_two' (w := w) (W := (W0.setCell ⟨w.heap.size, 0, none⟩ (.slice (some ⟨W0.heap.size + 1, 0, none⟩) n n)).setCell ⟨w.heap.size, 1, none⟩ (.slice (some ⟨W0.heap.size, 0, none⟩) t t)) (z := W0.heap.size) (by simp) ((HB0.out.setCell (Nat.le_refl _) _).setCell (Nat.le_refl _) _) (by simp; omega) n t (by omega) (by omega)
        exact nw_done h1 h2 (by omega) (by omega) (by omega) h3 _ _ HV.out
      · exact AllReadyH.nil
end Go.Proofs.YtlkdmpfifpkpaaaGreatDoor
namespace Go.Proofs.YtlkdmpfifpkpaaaGreatDoor
open Go.RowKit

theorem cntA_none {f : Nat → Int} {p : Int} (h : ∀ i, f i ≠ p) : ∀ m, cntA f p m = 0
  | 0 => rfl
  | m + 1 => by
    simp only [cntA]
    rw [cntA_none h m, if_neg (h m)]
theorem newL_vld {n m : Nat} (h1 : 1 ≤ n) (h2 : n ≤ 5) (h3 : m ≤ 5) : vldL (newL n m) = true := by
  refine vldL_of (inB_true.2 ⟨by show (1 : Int) ≤ (n : Int); omega, by show (n : Int) ≤ 5; omega⟩) h3 (fun k _ => rfl) (fun i _ => ?_) (fun k _ => ?_)
  · rw [trOk_true]
    exact ⟨⟨Int.le_refl _, by show (0 : Int) ≤ 2 * (n : Int); omega⟩, .inr (Int.le_refl _)⟩
  · rw [cnOk_true]
    show cntA (fun _ => 0) (2 * (k : Int) + 1) m = 0
    exact cntA_none (fun i => by omega) m
/-- the boxes of the draw of a line -/
structure DlM (w wr : World) (R b3 g1 c1 g2 c2 : Nat) (y : Ln) (M : Nat) : Prop where
  res : Bx wr w.heap.size 31 #[.slice none 0 0, .slice none 0 0]
  box : Bx wr b3 31 #[.slice (some ⟨g1, 0, none⟩) y.n c1, .slice (some ⟨g2, 0, none⟩) y.m c2]
  bs : Own wr g1 c1 y.n 3 76 (bkF y.N y.I y.O)
  ts : Own wr g2 c2 y.m 1 3 (fun i => .int .i64 (y.T i))
  d : g1 ≠ g2
  d1 : b3 ≠ g1
  d2 : b3 ≠ g2
  h1 : w.heap.size < g1
  h2 : w.heap.size < g2
  h3 : w.heap.size < b3
  rd : RdL wr R M
  hR : R < w.heap.size
  gr : w.grownBy wr (some R)
section
variable {w wr w' : World} {R b3 g1 c1 g2 c2 M M' : Nat} {y : Ln}
theorem DlM.lts (h : DlM w wr R b3 g1 c1 g2 c2 y M) : w.heap.size < wr.heap.size ∧ b3 < wr.heap.size ∧ g1 < wr.heap.size ∧ g2 < wr.heap.size := ⟨h.res.lt, h.box.lt, h.bs.lt, h.ts.lt⟩
theorem DlM.below (h : DlM w wr R b3 g1 c1 g2 c2 y M) (hb : Below wr.heap.size wr w') : DlM w w' R b3 g1 c1 g2 c2 y M := by
  obtain ⟨z0, z1, z2, z3⟩ := h.lts
  exact ⟨h.res.below hb z0, h.box.below hb z1, h.bs.below hb z2, h.ts.below hb z3, h.d, h.d1, h.d2, h.h1, h.h2, h.h3, h.rd.keep hb, h.hR, grownBy_trans h.gr (grownBy_below hb _)⟩
theorem DlM.drew (h : DlM w wr R b3 g1 c1 g2 c2 y M) : DlM w wr.drew R b3 g1 c1 g2 c2 y M := h.below (Below.refl _ _).drew
theorem DlM.pick (h : DlM w wr R b3 g1 c1 g2 c2 y M) (hr : RdL w' R M') (hg : wr.grownBy w' (some R)) : DlM w w' R b3 g1 c1 g2 c2 y M' := by
  have a1 := h.hR
  have a2 := h.h1
  have a3 := h.h2
  have a4 := h.h3
  exact ⟨h.res.kept hg (by omega), h.box.kept hg (by omega), h.bs.kept hg (by simp; omega), h.ts.kept hg (by simp; omega), h.d, h.d1, h.d2, h.h1, h.h2, h.h3, hr, h.hR, grownBy_trans h.gr hg⟩
theorem grow_set {b o : Nat} {v : Value} (h : w.grownBy wr (some R)) (hb : w.heap.size ≤ b) : w.grownBy (wr.setCell ⟨b, o, none⟩ v) (some R) :=
  grow_new h (grownBy_setCell wr b o v) hb
theorem DlM.setBk (h : DlM w wr R b3 g1 c1 g2 c2 y M) (k : Nat) (a : Int) (b c : Bool) :
    DlM w (((wr.setCell ⟨g1, k * 3, none⟩ (.int .i64 a)).setCell ⟨g1, k * 3 + 1, none⟩ (.bool b)).setCell ⟨g1, k * 3 + 2, none⟩ (.bool c)) R b3 g1 c1 g2 c2 { y with N := upd y.N k a, I := upd y.I k b, O := upd y.O k c } M := by
  have a1 := h.h1
  have a4 := h.hR
  have d := h.d
  have d1 := h.d1
  exact ⟨((h.res.setOther (by dsimp only; omega) _).setOther (by dsimp only; omega) _).setOther (by dsimp only; omega) _, ((h.box.setOther (by dsimp only; omega) _).setOther (by dsimp only; omega) _).setOther (by dsimp only; omega) _, h.bs.setBk k a b c,
    ((h.ts.setOther (by dsimp only; omega) _).setOther (by dsimp only; omega) _).setOther (by dsimp only; omega) _, h.d, h.d1, h.d2, h.h1, h.h2, h.h3, ((h.rd.set (by omega)).set (by omega)).set (by omega), a4, grow_set (grow_set (grow_set h.gr (by omega)) (by omega)) (by omega)⟩
theorem DlM.setTr (h : DlM w wr R b3 g1 c1 g2 c2 y M) (k : Nat) (a : Int) :
    DlM w (wr.setCell ⟨g2, k, none⟩ (.int .i64 a)) R b3 g1 c1 g2 c2 { y with T := upd y.T k a } M := by
  have a1 := h.h2
  have a4 := h.hR
  have d := h.d
  have d2 := h.d2
  exact ⟨h.res.setOther (by dsimp only; omega) _, h.box.setOther (by dsimp only; omega) _, h.bs.setOther (by dsimp only; omega) _, h.ts.setInt k a, h.d, h.d1, h.d2, h.h1, h.h2, h.h3, h.rd.set (by omega), a4, grow_set h.gr (by omega)⟩
/-- one train more -/
theorem DlM.push {wa : World} {g' c' : Nat} {a : Int} (h : DlM w wr R b3 g1 c1 g2 c2 y M) (HA : Own wa g' c' (y.m + 1) 1 3 (fun i => .int .i64 (if i = y.m then a else y.T i))) (hg : wr.grownBy wa (some g2)) (hd : (g' = g2 ∧ c' = c2) ∨ wr.heap.size < g') :
    DlM w (wa.setCell ⟨b3, 1, none⟩ (.slice (some ⟨g', 0, none⟩) (y.m + 1) c')) R b3 g1 c1 g' c' { y with m := y.m + 1, T := upd y.T y.m a } M := by
  have a1 := h.h1
  have a2 := h.h2
  have a3 := h.h3
  have a4 := h.hR
  have d := h.d
  have d1 := h.d1
  have d2 := h.d2
  obtain ⟨z0, z1, z2, z3⟩ := h.lts
  have e1 : g1 ≠ g' := by rcases hd with ⟨q, _⟩ | q <;> omega
  have e2 : b3 ≠ g' := by rcases hd with ⟨q, _⟩ | q <;> omega
  have e3 : w.heap.size < g' := by rcases hd with ⟨q, _⟩ | q <;> omega
  refine ⟨(h.res.kept hg (by omega)).setOther (by dsimp only; omega) _, ?_, (h.bs.kept hg (by simp; omega)).setOther (by dsimp only; omega) _, Own.setOther HA (by dsimp only; omega) _, e1, d1, e2, a1, e3, a3, (h.rd.kept hg (by omega)).set (by omega), a4, grow_set (grow_new h.gr hg (by omega)) (by omega)⟩
  have hb := (h.box.kept hg (by omega)).set 1 (.slice (some ⟨g', 0, none⟩) (y.m + 1) c')
  simpa using hb
end
/-- a drawn line -/
def DLn (R M : Nat) (w : World) (e : Ending) (w' : World) : Prop :=
  ∃ v x, e = .returned v ∧ LnO w.heap.size w' v x ∧ 1 ≤ x.n ∧ x.n ≤ 4 ∧ x.m ≤ 5 ∧ RdL w' R M ∧ w.grownBy w' (some R)
theorem DlM.done {w wr : World} {R b3 g1 c1 g2 c2 M M' : Nat} {y : Ln} (h : DlM w wr R b3 g1 c1 g2 c2 y M) (h1 : 1 ≤ y.n) (h2 : y.n ≤ 4) (h3 : y.m ≤ 5) (hM : M ≤ M') (u0 u1 : Value) :
    DLn R M' w (.returned (.agg #[.slice (some ⟨g1, 0, none⟩) y.n c1, .slice (some ⟨g2, 0, none⟩) y.m c2])) ((wr.setCell ⟨w.heap.size, 0, none⟩ u0).setCell ⟨w.heap.size, 1, none⟩ u1) := by
  have a1 := h.h1
  have a2 := h.h2
  have a4 := h.hR
  exact ⟨_, y, rfl, ⟨g1, c1, g2, c2, rfl, (h.bs.setOther (by dsimp only; omega) _).setOther (by dsimp only; omega) _, (h.ts.setOther (by dsimp only; omega) _).setOther (by dsimp only; omega) _, h.d, by omega, by omega⟩, h1, h2, h3, (((h.rd.set (by omega)).set (by omega)).mono hM), grow_set (grow_set h.gr (Nat.le_refl _)) (Nat.le_refl _)⟩
end Go.Proofs.YtlkdmpfifpkpaaaGreatDoor
namespace Go.Proofs.YtlkdmpfifpkpaaaGreatDoor
open Go.RowKit

/-- a row of moves of its own, told by its numbers and letters; or nil -/
def RowNL (w : World) (v : Value) (q : Nat) (M : Nat → Int) (L : Nat → ByteArray) (g : Option Nat) : Prop :=
  (∃ b c, g = some b ∧ v = .slice (some ⟨b, 0, none⟩) q c ∧ Own w b c q 2 94 (mvF M L)) ∨ (g = none ∧ q = 0 ∧ v = .slice none 0 0)
theorem RowNL.below {w w' : World} {v : Value} {q : Nat} {M : Nat → Int} {L : Nat → ByteArray} {g : Option Nat} (h : RowNL w v q M L g) (hb : Below w.heap.size w w') : RowNL w' v q M L g := by
  rcases h with ⟨b, c, e, e2, h⟩ | h
  · exact .inl ⟨b, c, e, e2, h.below hb h.lt⟩
  · exact .inr h
theorem RowNL.grown {w w' : World} {v : Value} {q : Nat} {M : Nat → Int} {L : Nat → ByteArray} {g row : Option Nat} (h : RowNL w v q M L g) (hb : w.grownBy w' row) (hne : ∀ b, g = some b → row ≠ some b) : RowNL w' v q M L g := by
  rcases h with ⟨b, c, e, e2, h⟩ | h
  · exact .inl ⟨b, c, e, e2, h.kept hb (fun q => hne b e q.symm)⟩
  · exact .inr h
theorem RowNL.reads {w : World} {v : Value} {q : Nat} {M : Nat → Int} {L : Nat → ByteArray} {g : Option Nat} (h : RowNL w v q M L g) : MLs w v q M L := by
  rcases h with ⟨b, c, e, e2, h⟩ | ⟨e, e2, e3⟩
  · exact .inl ⟨b, 0, c, e2, MvsC.of_own h⟩
  · exact .inr ⟨e2, _, _, e3⟩
theorem RowNL.shape {w : World} {v : Value} {q : Nat} {M : Nat → Int} {L : Nat → ByteArray} {g : Option Nat} (h : RowNL w v q M L g) : ∃ ao c, v = .slice ao q c := h.reads.shape
theorem RowMs.row {z : Nat} {w : World} {v : Value} {ys : List (Int × ByteArray)} {g : Option Nat} (h : RowMs z w v ys g) : RowNL w v ys.length (mvM ys) (mvS ys) g ∧ (∀ c, g = some c → z ≤ c ∧ c < w.heap.size) := by
  rcases h with ⟨b, c, rfl, e2, e3, h⟩ | ⟨rfl, rfl, e2⟩
  · exact ⟨.inl ⟨b, c, rfl, e2, h⟩, fun c e => by cases e; exact ⟨e3, h.lt⟩⟩
  · exact ⟨.inr ⟨rfl, rfl, e2⟩, fun c e => by cases e⟩
end Go.Proofs.YtlkdmpfifpkpaaaGreatDoor
namespace Go.Proofs.YtlkdmpfifpkpaaaGreatDoor
open Go.RowKit

/-- a line in a box, rows of its own -/
structure LbM (w wr : World) (b g1 c1 g2 c2 : Nat) (x : Ln) : Prop where
  box : Bx wr b 31 #[.slice (some ⟨g1, 0, none⟩) x.n c1, .slice (some ⟨g2, 0, none⟩) x.m c2]
  bs : Own wr g1 c1 x.n 3 76 (bkF x.N x.I x.O)
  ts : Own wr g2 c2 x.m 1 3 (fun i => .int .i64 (x.T i))
  bl : Below w.heap.size w wr
  hn : x.n ≤ 1000000
  hm : x.m ≤ 1000000
section
variable {w wr w' : World} {b g1 c1 g2 c2 : Nat} {x : Ln}
theorem LbM.below (h : LbM w wr b g1 c1 g2 c2 x) (hb : Below wr.heap.size wr w') : LbM w w' b g1 c1 g2 c2 x :=
  ⟨h.box.below hb h.box.lt, h.bs.below hb h.bs.lt, h.ts.below hb h.ts.lt, h.bl.trans (hb.mono h.bl.size), h.hn, h.hm⟩
theorem LbM.drew (h : LbM w wr b g1 c1 g2 c2 x) : LbM w wr.drew b g1 c1 g2 c2 x := h.below (Below.refl _ _).drew
theorem LbM.alloc (h : LbM w wr b g1 c1 g2 c2 x) (o : Obj) : LbM w (wr.alloc o) b g1 c1 g2 c2 x := h.below (below_all _ _)
theorem LbM.new {z : Nat} (hb : Below w.heap.size w wr) (h : LnO z wr (.agg #[.slice (some ⟨g1, 0, none⟩) x.n c1, .slice (some ⟨g2, 0, none⟩) x.m c2]) x) (hn : x.n ≤ 1000000) (hm : x.m ≤ 1000000) :
    LbM w (wr.alloc (.cells #[.slice (some ⟨g1, 0, none⟩) x.n c1, .slice (some ⟨g2, 0, none⟩) x.m c2] 31)) wr.heap.size g1 c1 g2 c2 x := by
  obtain ⟨_, _, _, _, e, h1, h2, _⟩ := h
  cases e
  exact ⟨Bx.new _ _ _, h1.alloc _, h2.alloc _, hb.alloc hb.size _, hn, hm⟩
/-- a line that was put into a box of its own -/
theorem LbM.put {z q : Nat} {V : World} (hl : LnO z V (.agg #[.slice (some ⟨g1, 0, none⟩) x.n c1, .slice (some ⟨g2, 0, none⟩) x.m c2]) x) (hx : Bx V q 31 #[.slice (some ⟨g1, 0, none⟩) x.n c1, .slice (some ⟨g2, 0, none⟩) x.m c2]) (hb : Below w.heap.size w V) (hn : x.n ≤ 1000000) (hm : x.m ≤ 1000000) :
    LbM w V q g1 c1 g2 c2 x := by
  obtain ⟨_, _, _, _, e, h1, h2, _⟩ := hl
  cases e
  exact ⟨hx, h1, h2, hb, hn, hm⟩
/-- moves handed back, by their reading -/
def MvV (w : World) (v : Value) (ms : List (Int × ByteArray)) : Prop := MLs w v ms.length (mvM ms) (mvS ms)
theorem MvV.keep {v : Value} {ms : List (Int × ByteArray)} (h : MvV w v ms) (hb : Below w.heap.size w w') : MvV w' v ms := MLs.keep h hb
theorem MvV.shape {v : Value} {ms : List (Int × ByteArray)} (h : MvV w v ms) : ∃ ao c, v = .slice ao ms.length c := MLs.shape h
theorem MvV.at {ao : Option Addr} {c i : Nat} {ms : List (Int × ByteArray)} (h : MvV w (.slice ao ms.length c) ms) (hi : i < ms.length) : ∃ bm mo, ao = some ⟨bm, mo, none⟩ ∧ w.cell? ⟨bm, mo + i * 2, none⟩ = some (.int .i64 (ms[i]).1) ∧ w.cell? ⟨bm, mo + i * 2 + 1, none⟩ = some (.string (ms[i]).2) := by
  rcases h with ⟨bm, mo, c', e, h⟩ | ⟨h0, _⟩
  · cases e
    obtain ⟨h1, h2⟩ := h i hi
    refine ⟨bm, mo, rfl, ?_, ?_⟩
    · rw [h1]; unfold mvM; rw [List.getElem?_eq_getElem hi]; rfl
    · rw [h2]; unfold mvS; rw [List.getElem?_eq_getElem hi]; rfl
  · omega
/-- moves handed back in a row -/
def MvA (w : World) (v : Value) (ms : List (Int × ByteArray)) : Prop := ∃ b o c, v = .slice (some ⟨b, o, none⟩) ms.length c ∧ ms.length ≤ c ∧ MvsC w b o ms.length (mvM ms) (mvS ms)
theorem MvA.keep {v : Value} {ms : List (Int × ByteArray)} (h : MvA w v ms) (hb : Below w.heap.size w w') : MvA w' v ms := by
  obtain ⟨b, o, c, e, hc, h⟩ := h
  exact ⟨b, o, c, e, hc, h.keep hb⟩
end
theorem LrR.some {o : Option Ln} {y : Ln} {w w' : World} {e : Ending} (h : LrR o w e w') (ho : o = some y) : ∃ v, e = .returned (.tuple #[v, .bool true]) ∧ LnO w.heap.size w' v y ∧ Below w.heap.size w w' := by
  obtain ⟨hb, ⟨h1, _⟩ | ⟨y', v, h1, h2, h3⟩⟩ := h
  · rw [ho] at h1; cases h1
  · rw [ho] at h1; cases h1; exact ⟨v, h2, h3, hb⟩
end Go.Proofs.YtlkdmpfifpkpaaaGreatDoor
