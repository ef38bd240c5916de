/-
  Parts of the proof of fnExecuteFit_proved: Ea Mb Mc Eb Ee Ef Sf Lm Lv Lw Na Nb Va Nd Vc Vd Eg Vf Jk Jl Kf Kg Jm Jn. No condition.
-/
import Derived.Test.YtlkdmpfifpkpaaaGreatDoorChecked
import Derived.Lib.SlBytesRow
import Derived.Laws.BitsAllLaws
import Derived.Deep.DeepCutAuto
import Derived.Deep.QuietTactic
import Derived.BigQuiet
import Derived.Lib.Builder
import Derived.Lib.AppendStr
import Derived.Lib.UnsafeStr
import Derived.Lib.Strings
import Derived.Lib.Slices
import Derived.Laws.Externs
import Derived.Deep.RegionWith
import Derived.Shelf.Strings.Builder1
import Derived.Shelf.Strings.Builder2
import Derived.Shelf.Strings.OnBuilder
import Derived.Shelf.Strings.BuilderF
import Derived.Shelf.Strconv.Itoa0
import Derived.Shelf.Strconv.Itoa1
import Derived.Shelf.LaysM
import Derived.Shelf.Strconv.Itoa2
import Derived.Shelf.Strconv.Itoa3
import Derived.Shelf.Strings.Search1
import Derived.Shelf.Strings.Search2
import Derived.Shelf.Strings.Search3
import Derived.Shelf.Strings.Count
import Derived.Shelf.Strings.Shaped
import Derived.Shelf.Strings.Split
import Derived.Shelf.Strings.SplitShaped
import Derived.Shelf.Unicode.DecodeSlow
import Derived.Test.YtlkdmpfifpkpaaaGreatDoorProg
import Derived.Lib.IndexLaws
import Derived.WalkKit
import Derived.WalkSpells
import Derived.WalkLawsBesides
import Derived.Lib.Hide
import Derived.Deep.RegionHeld3
import Derived.Deep.DeepFit
import Derived.RangeFuncNested
import Derived.RangeFuncBound
import Derived.RangeFuncCalls
import Derived.RangeFuncLeaves
import Derived.RangeFuncBox
import Derived.Shelf.Abstract
import Derived.OwnWalkIn
import Derived.TacticsInMore
import Derived.LoopNIn
import Derived.LoopIn
import Derived.Maps.AppendAt
import Derived.Shelf.RegionOpen
import Derived.OrdersIn
import Derived.OrdersHeld
import Derived.Deep.RegionHeld
import Derived.Lib.SplitLaws
import Derived.Recover
import Derived.Defers
import Derived.Lib.ItoaLen
import Derived.Test.YtlkdmpfifpkpaaaGreatDoorU01
import Derived.Test.YtlkdmpfifpkpaaaGreatDoorU02
import Derived.Test.YtlkdmpfifpkpaaaGreatDoorU03
import Derived.Test.YtlkdmpfifpkpaaaGreatDoorU04
import Derived.Test.YtlkdmpfifpkpaaaGreatDoorU05
import Derived.Test.YtlkdmpfifpkpaaaGreatDoorU06
import Derived.Test.YtlkdmpfifpkpaaaGreatDoorU07
namespace Go.Proofs.YtlkdmpfifpkpaaaGreatDoor
open Go.RowKit

/-- a row of blocks as a value; where n is 0 it may be nil -/
def BL (w : World) (v : Value) (n : Nat) (N : Nat → Int) (I O : Nat → Bool) : Prop :=
  (∃ b o c, v = .slice (some ⟨b, o, none⟩) n c ∧ BkC w b o n N I O) ∨ (n = 0 ∧ ∃ ao c, v = .slice ao 0 c)
theorem BL.keep {w w' : World} {v : Value} {n : Nat} {N : Nat → Int} {I O : Nat → Bool} (h : BL w v n N I O) (hb : Below w.heap.size w w') : BL w' v n N I O := by
  rcases h with ⟨b, o, c, e, h⟩ | h
  · exact .inl ⟨b, o, c, e, h.keep hb⟩
  · exact .inr h
theorem BL.shape {w : World} {v : Value} {n : Nat} {N : Nat → Int} {I O : Nat → Bool} (h : BL w v n N I O) : ∃ ao c, v = .slice ao n c := by
  rcases h with ⟨b, o, c, e, _⟩ | ⟨rfl, ao, c, e⟩
  · exact ⟨_, _, e⟩
  · exact ⟨_, _, e⟩
theorem Own.bl {w : World} {g cap n : Nat} {N : Nat → Int} {I O : Nat → Bool} {t : TypeId} (h : Own w g cap n 3 t (bkF N I O)) {k : Nat} (hk : k < n) : w.cell? ⟨g, k * 3, none⟩ = some (.int .i64 (N k)) ∧ w.cell? ⟨g, k * 3 + 1, none⟩ = some (.bool (I k)) ∧ w.cell? ⟨g, k * 3 + 2, none⟩ = some (.bool (O k)) := by
  have := (BkC.of_own h).at k hk
  simpa using this
/-- a row of zero blocks -/
theorem own_bk0 (w : World) (n : Nat) (hn : n ≤ 1000000000000) : Own (w.alloc (.cells (madeCells #[.int .i64 0, .bool false, .bool false] (n * 3)) 76)) w.heap.size n n 3 76 (bkF (fun _ => 0) (fun _ => false) (fun _ => false)) :=
  own_full w _ n 3 _ _ (by unfold maxLen; omega) rfl (by omega) (fun i _ => by
    unfold bkF
    have h3 : i % 3 = 0 ∨ i % 3 = 1 ∨ i % 3 = 2 := by omega
    rcases h3 with h | h | h <;> simp [h])
end Go.Proofs.YtlkdmpfifpkpaaaGreatDoor
namespace Go.Proofs.YtlkdmpfifpkpaaaGreatDoor
open Go.RowKit

theorem bx_notrow {W : World} {b B : Nat} {t : TypeId} {cs : Array Value} {row : Option Nat} (h : Bx W b t cs) (hr : ∀ r, row = some r → B ≤ r ∧ ∃ o : Obj, W.heap[r]? = some o ∧ o.isCells = false) : row ≠ some b := fun e => by
  obtain ⟨_, o, ho, hc⟩ := hr b e
  rw [show W.heap[b]? = _ from h] at ho
  cases ho
  cases hc
attribute [local go_sem] Oper.semAt_some
end Go.Proofs.YtlkdmpfifpkpaaaGreatDoor
namespace Go.Proofs.YtlkdmpfifpkpaaaGreatDoor
open Go.RowKit

/-- the numbers and the letters of a list of moves -/
def mvM (ys : List (Int × ByteArray)) (i : Nat) : Int := (ys[i]?.getD (0, ⟨#[]⟩)).1
def mvS (ys : List (Int × ByteArray)) (i : Nat) : ByteArray := (ys[i]?.getD (0, ⟨#[]⟩)).2
/-- a slice of moves in new memory, or nil where there are none -/
def RowMs (z : Nat) (W : World) (v : Value) (ys : List (Int × ByteArray)) (g : Option Nat) : Prop :=
  (∃ b c, g = some b ∧ v = .slice (some ⟨b, 0, none⟩) ys.length c ∧ z ≤ b ∧ Own W b c ys.length 2 94 (mvF (mvM ys) (mvS ys))) ∨ (g = none ∧ ys = [] ∧ v = .slice none 0 0)
end Go.Proofs.YtlkdmpfifpkpaaaGreatDoor
namespace Go.Proofs.YtlkdmpfifpkpaaaGreatDoor
open Go.RowKit

/-- a line as an argument -/
def LnV (w : World) (v : Value) (x : Ln) : Prop := ∃ va vb, v = .agg #[va, vb] ∧ BL w va x.n x.N x.I x.O ∧ SL w vb x.m x.T
theorem LnV.keep {w w' : World} {v : Value} {x : Ln} (h : LnV w v x) (hb : Below w.heap.size w w') : LnV w' v x := by
  obtain ⟨va, vb, e, h1, h2⟩ := h
  exact ⟨va, vb, e, h1.keep hb, h2.keep hb⟩
end Go.Proofs.YtlkdmpfifpkpaaaGreatDoor
namespace Go.Proofs.YtlkdmpfifpkpaaaGreatDoor
open Go.RowKit

/-- a row of blocks of its own (block g), or nil -/
def RowB (w : World) (v : Value) (n : Nat) (f : Nat → Value) (g : Option Nat) : Prop :=
  (∃ b c, g = some b ∧ v = .slice (some ⟨b, 0, none⟩) n c ∧ Own w b c n 3 76 f) ∨ (g = none ∧ n = 0 ∧ v = .slice none 0 0)
theorem RowB.below {w w' : World} {v : Value} {n : Nat} {f : Nat → Value} {g : Option Nat} (h : RowB w v n f g) (hb : Below w.heap.size w w') : RowB w' v n f g := by
  rcases h with ⟨b, c, e, e2, h⟩ | h
  · exact .inl ⟨b, c, e, e2, h.below hb h.lt⟩
  · exact .inr h
theorem RowB.grown {w w' : World} {v : Value} {n : Nat} {f : Nat → Value} {g row : Option Nat} (h : RowB w v n f g) (hb : w.grownBy w' row) (hne : ∀ b, g = some b → row ≠ some b) : RowB w' v n f g := by
  rcases h with ⟨b, c, e, e2, h⟩ | h
  · exact .inl ⟨b, c, e, e2, h.kept hb (fun q => hne b e q.symm)⟩
  · exact .inr h
theorem RowB.reads {w : World} {v : Value} {n : Nat} {N : Nat → Int} {I O : Nat → Bool} {g : Option Nat} (h : RowB w v n (bkF N I O) g) : BL w v n N I O := by
  rcases h with ⟨b, c, e, e2, h⟩ | ⟨e, e2, e3⟩
  · exact .inl ⟨b, 0, c, e2, BkC.of_own h⟩
  · exact .inr ⟨e2, _, _, e3⟩
end Go.Proofs.YtlkdmpfifpkpaaaGreatDoor
namespace Go.Proofs.YtlkdmpfifpkpaaaGreatDoor
open Go.RowKit

theorem RowB.lt {w : World} {v : Value} {n : Nat} {f : Nat → Value} {g : Option Nat} (h : RowB w v n f g) : ∀ b, g = some b → b < w.heap.size := fun b e => by
  rcases h with ⟨b', c, e1, e2, h⟩ | ⟨e1, _⟩
  · rw [e1] at e; cases e; exact h.lt
  · rw [e1] at e; cases e
/-- a line in a box, its rows its own -/
structure LB (w : World) (b : Nat) (va vb : Value) (y : Ln) (g1 g2 : Option Nat) : Prop where
  bx : Bx w b 31 #[va, vb]
  rb : RowB w va y.n (bkF y.N y.I y.O) g1
  ri : RowI w vb y.m y.T g2
  nb1 : ∀ c, g1 = some c → b ≠ c
  nb2 : ∀ c, g2 = some c → b ≠ c
  n12 : ∀ c, g1 = some c → g2 ≠ some c
theorem LB.below {w w' : World} {b : Nat} {va vb : Value} {y : Ln} {g1 g2 : Option Nat} (h : LB w b va vb y g1 g2) (hb : Below w.heap.size w w') : LB w' b va vb y g1 g2 :=
  ⟨h.bx.below hb h.bx.lt, h.rb.below hb, h.ri.below hb, h.nb1, h.nb2, h.n12⟩
theorem LB.grown {w w' : World} {b : Nat} {va vb : Value} {y : Ln} {g1 g2 row : Option Nat} (h : LB w b va vb y g1 g2) (hb : w.grownBy w' row) (hn : ∀ c, row = some c → b ≠ c ∧ g1 ≠ some c ∧ g2 ≠ some c) : LB w' b va vb y g1 g2 :=
  ⟨h.bx.grown hb (fun e => (hn b e).1 rfl), h.rb.grown hb (fun c e e2 => (hn c e2).2.1 e), h.ri.grown hb (fun c e e2 => (hn c e2).2.2 e), h.nb1, h.nb2, h.n12⟩
theorem LB.reads {w : World} {b : Nat} {va vb : Value} {y : Ln} {g1 g2 : Option Nat} (h : LB w b va vb y g1 g2) : LnV w (.agg #[va, vb]) y := ⟨va, vb, rfl, h.rb.reads, h.ri.reads⟩
/-- the blocks of a line lie from z on -/
def Fr2 (z : Nat) (w : World) (g1 g2 : Option Nat) : Prop := (∀ c, g1 = some c → z ≤ c ∧ c < w.heap.size) ∧ (∀ c, g2 = some c → z ≤ c ∧ c < w.heap.size)
/-- what a call hands back as a line -/
def LnN (z : Nat) (w : World) (va vb : Value) (y : Ln) (g1 g2 : Option Nat) : Prop :=
  RowB w va y.n (bkF y.N y.I y.O) g1 ∧ RowI w vb y.m y.T g2 ∧ (∀ c, g1 = some c → g2 ≠ some c) ∧ Fr2 z w g1 g2
theorem LnN.reads {z : Nat} {w : World} {va vb : Value} {y : Ln} {g1 g2 : Option Nat} (h : LnN z w va vb y g1 g2) : LnV w (.agg #[va, vb]) y := ⟨va, vb, rfl, h.1.reads, h.2.1.reads⟩
theorem LnO.new {z : Nat} {w : World} {v : Value} {y : Ln} (h : LnO z w v y) : ∃ va vb g1 g2, v = .agg #[va, vb] ∧ LnN z w va vb y g1 g2 := by
  obtain ⟨g1, c1, g2, c2, e, h1, h2, h3, h4, h5⟩ := h
  exact ⟨_, _, some g1, some g2, e, .inl ⟨g1, c1, rfl, rfl, h1⟩, .inl ⟨g2, c2, rfl, rfl, h2⟩, fun c e e2 => by cases e; cases e2; exact h3 rfl, fun c e => by cases e; exact ⟨h4, h1.lt⟩, fun c e => by cases e; exact ⟨h5, h2.lt⟩⟩
end Go.Proofs.YtlkdmpfifpkpaaaGreatDoor
namespace Go.Proofs.YtlkdmpfifpkpaaaGreatDoor
open Go.RowKit

/-- a row of the moves ys of its own -/
def OwnMs (w : World) (g cap : Nat) (ys : List (Int × ByteArray)) : Prop := Own w g cap ys.length 2 94 (mvF (mvM ys) (mvS ys))
end Go.Proofs.YtlkdmpfifpkpaaaGreatDoor
namespace Go.Proofs.YtlkdmpfifpkpaaaGreatDoor
open Go.RowKit

theorem bt_chr (c : UInt8) : bt (chr c) 0 = (c.toNat : Int) := by
  have h : 0 < (chr c).size := by show 0 < 1; omega
  rw [← bt_at h]
  rfl
theorem mvJ_chr (x : Ln) (k : Nat) (c : UInt8) : mvJ x k (chr c) = nx (stI (x.N k) (x.I k) (x.O k)) (c.toNat : Int) := by
  show bsI (x.N k) (x.I k) (x.O k) (chr c) = _
  unfold bsI
  rw [if_pos (show (chr c).size = 1 from rfl), bt_chr]
end Go.Proofs.YtlkdmpfifpkpaaaGreatDoor
namespace Go.Proofs.YtlkdmpfifpkpaaaGreatDoor
open Go.RowKit

theorem stB_i {j : Nat} (h : j < 5) : (stB j).i = decide (j = 3) := by
  match j, h with
  | 0, _ => rfl
  | 1, _ => rfl
  | 2, _ => rfl
  | 3, _ => rfl
  | 4, _ => rfl
theorem nx_cases {s : Nat} {c : Int} (h : nx s c < 5) :
    (s = 0 ∧ c = 111 ∧ nx s c = 1) ∨ (s = 1 ∧ c = 114 ∧ nx s c = 0) ∨ (s = 1 ∧ c = 97 ∧ nx s c = 2) ∨ (s = 2 ∧ c = 99 ∧ nx s c = 0) ∨ (s = 2 ∧ c = 101 ∧ nx s c = 3) ∨ (s = 3 ∧ c = 108 ∧ nx s c = 4) ∨ (s = 4 ∧ c = 102 ∧ nx s c = 0) := by
  match s with
  | 0 => simp only [nx] at h ⊢; split at h <;> rename_i e <;> simp [e] at h ⊢
  | 1 => simp only [nx] at h ⊢
         by_cases e : c = 114
         · simp [e]
         · by_cases e2 : c = 97
           · simp [e2]
           · simp [e, e2] at h
  | 2 => simp only [nx] at h ⊢
         by_cases e : c = 99
         · simp [e]
         · by_cases e2 : c = 101
           · simp [e2]
           · simp [e, e2] at h
  | 3 => simp only [nx] at h ⊢; split at h <;> rename_i e <;> simp [e] at h ⊢
  | 4 => simp only [nx] at h ⊢; split at h <;> rename_i e <;> simp [e] at h ⊢
  | s + 5 => simp [nx] at h
/-- the state of a section -/
def sk (x : Ln) (k : Nat) : Nat := stI (x.N k) (x.I k) (x.O k)
theorem sk_lt {x : Ln} (hv : vldL x = true) {k : Nat} (hk : k < x.n) : sk x k < 5 := by
  have h := (vldL_true hv).2.2.2.1 k hk
  exact of_decide_eq_true h
theorem sk_I {x : Ln} (hv : vldL x = true) {k : Nat} (hk : k < x.n) : x.I k = decide (sk x k = 3) := by
  have h5 := sk_lt hv hk
  have h := (stI_B (n := x.N k) (i := x.I k) (o := x.O k) rfl h5).2.1
  rw [h]
  exact stB_i h5
theorem trOk_true {x : Ln} {i : Nat} : trOk x i = true ↔ (0 ≤ x.T i ∧ x.T i ≤ 2 * (x.n : Int)) ∧ (i = 0 ∨ x.T i ≤ x.T (i - 1)) := by
  simp [trOk, inB_true]
end Go.Proofs.YtlkdmpfifpkpaaaGreatDoor
namespace Go.Proofs.YtlkdmpfifpkpaaaGreatDoor
open Go.RowKit

theorem cnOk_true {x : Ln} {k : Nat} : cnOk x k = true ↔ cntA x.T (2 * (k : Int) + 1) x.m = if x.I k = true then 1 else 0 := by
  simp [cnOk]
end Go.Proofs.YtlkdmpfifpkpaaaGreatDoor
namespace Go.Proofs.YtlkdmpfifpkpaaaGreatDoor
open Go.RowKit

/-- a move that leaves fewer moves -/
def nrB (x : Ln) (y : Int × ByteArray) : Bool := mvOk x y.1 y.2 && decide (lefS (mvTo x y.1 y.2) x.n < lefS x x.n)
def nearM (x : Ln) : Option (Int × ByteArray) := (mvsL x).find? (nrB x)
/-- the boxes of nextNearer -/
structure NnM (w wr : World) (r : Nat) : Prop where
  b1 : Bx wr w.heap.size 174 #[.pointer (some ⟨r, 0, none⟩)]
  b2 : Bx wr (w.heap.size + 1) 174 #[.pointer none]
  b3 : Bx wr (w.heap.size + 1 + 1) 94 #[.int .i64 0, .string ⟨#[]⟩]
  b4 : Bx wr (w.heap.size + 1 + 1 + 1) 4 #[.bool false]
  bl : Below w.heap.size w wr
theorem NnM.below {w wr w' : World} {r : Nat} (h : NnM w wr r) (hb : Below wr.heap.size wr w') : NnM w w' r :=
  ⟨h.b1.below hb h.b1.lt, h.b2.below hb h.b2.lt, h.b3.below hb h.b3.lt, h.b4.below hb h.b4.lt, h.bl.trans (hb.mono h.bl.size)⟩
/-- between two rounds of nextNearer's loop -/
structure NnI (w w3 : World) (r B5 : Nat) (x : Ln) (pre : List (Int × ByteArray)) (W : World) : Prop where
  no : ∀ z, z ∈ pre → nrB x z = false
  nn : NnM w W r
  lf : Bx W B5 3 #[.int .i64 (lefS x x.n)]
  bl : Below w3.heap.size w3 W
theorem NnI.below {w w3 W W' : World} {r B5 : Nat} {x : Ln} {pre : List (Int × ByteArray)} (h : NnI w w3 r B5 x pre W) (hb : Below W.heap.size W W') : NnI w w3 r B5 x pre W' :=
  ⟨h.no, h.nn.below hb, h.lf.below hb h.lf.lt, h.bl.trans (hb.mono h.bl.size)⟩
theorem own_notrow {W : World} {g cap n s B : Nat} {t : TypeId} {f : Nat → Value} {row : Option Nat} (h : Own W g cap n s t f) (hr : ∀ r, row = some r → B ≤ r ∧ ∃ o : Obj, W.heap[r]? = some o ∧ o.isCells = false) : row ≠ some g := fun e => by
  obtain ⟨_, o, ho, hc⟩ := hr g e
  obtain ⟨_, _, cur, hg, _⟩ := h
  rw [hg] at ho
  cases ho
  cases hc
theorem below_gr {B R : Nat} {w0 w w' : World} {row : Option Nat} (h : Below B w0 w) (hg : w.grownBy w' row) (hr : ∀ c, row = some c → R ≤ c ∧ ∃ o : Obj, w.heap[c]? = some o ∧ o.isCells = false) (hR : B ≤ R) (hB : B ≤ w0.heap.size) : Below B w0 w' := by
  refine h.trans ⟨hg.os, hg.tape, hg.output, hg.size, fun k hk => hg.block k (Nat.lt_of_lt_of_le hk (Nat.le_trans hB h.size)) (fun e => ?_)⟩
  have := (hr k e.symm).1
  omega
theorem Bx.gr {W W' : World} {b B : Nat} {t : TypeId} {cs : Array Value} {row : Option Nat} (h : Bx W b t cs) (hg : W.grownBy W' row) (hr : ∀ r, row = some r → B ≤ r ∧ ∃ o : Obj, W.heap[r]? = some o ∧ o.isCells = false) : Bx W' b t cs := h.of_block (hg.block b h.lt (fun e => bx_notrow h hr e.symm))
theorem Own.gr {W W' : World} {g cap n s B : Nat} {t : TypeId} {f : Nat → Value} {row : Option Nat} (h : Own W g cap n s t f) (hg : W.grownBy W' row) (hr : ∀ r, row = some r → B ≤ r ∧ ∃ o : Obj, W.heap[r]? = some o ∧ o.isCells = false) : Own W' g cap n s t f := h.of_block (hg.block g h.lt (fun e => own_notrow h hr e.symm))
theorem NnM.gr {w wr w' : World} {r B : Nat} {row : Option Nat} (h : NnM w wr r) (hg : wr.grownBy w' row) (hr : ∀ c, row = some c → B ≤ c ∧ ∃ o : Obj, wr.heap[c]? = some o ∧ o.isCells = false) (hB : w.heap.size ≤ B) : NnM w w' r :=
  ⟨h.b1.gr hg hr, h.b2.gr hg hr, h.b3.gr hg hr, h.b4.gr hg hr, below_gr h.bl hg hr hB (Nat.le_refl _)⟩
theorem RwC.gr {w w' : World} {r gb cb gt ct B : Nat} {x : Ln} {row : Option Nat} (h : RwC w r gb cb gt ct x) (hg : w.grownBy w' row) (hr : ∀ c, row = some c → B ≤ c ∧ ∃ o : Obj, w.heap[c]? = some o ∧ o.isCells = false) : RwC w' r gb cb gt ct x :=
  ⟨h.box.gr hg hr, h.bs.gr hg hr, h.ts.gr hg hr, h.d1, h.d2, h.d3⟩
attribute [local go_sem] Oper.semAt_some
end Go.Proofs.YtlkdmpfifpkpaaaGreatDoor
namespace Go.Proofs.YtlkdmpfifpkpaaaGreatDoor
open Go.RowKit

/-- moves that make a line done, at most f of them -/
def finL : Nat → Ln → List (Int × ByteArray)
  | 0, _ => []
  | f + 1, x => if 0 < lefS x x.n then (match nearM x with | some y => y :: finL f (mvTo x y.1 y.2) | none => []) else []
def finX (x : Ln) : List (Int × ByteArray) := finL (lefS x x.n).toNat x
theorem RwC.kept {w w' : World} {r gb cb gt ct R : Nat} {x : Ln} (h : RwC w r gb cb gt ct x) (hg : w.grownBy w' (some R)) (h1 : r ≠ R) (h2 : gb ≠ R) (h3 : gt ≠ R) : RwC w' r gb cb gt ct x :=
  ⟨h.box.kept hg h1, h.bs.kept hg (by simpa using h2), h.ts.kept hg (by simpa using h3), h.d1, h.d2, h.d3⟩
/-- between two rounds of LineFinish's loop -/
structure FnI (w wr : World) (r gb cb gt ct g cap : Nat) (x y : Ln) (pre : List (Int × ByteArray)) : Prop where
  rw : RwC wr r gb cb gt ct y
  ow : OwnMs wr g cap pre
  gz : w.heap.size ≤ g
  vl : vldL y = true
  fx : pre ++ finX y = finX x
  ln : pre.length + (lefS y y.n).toNat ≤ 135
  bl : Below w.heap.size w wr
theorem FnI.below {w wr w' : World} {r gb cb gt ct g cap : Nat} {x y : Ln} {pre : List (Int × ByteArray)} (h : FnI w wr r gb cb gt ct g cap x y pre) (hb : Below wr.heap.size wr w') : FnI w w' r gb cb gt ct g cap x y pre :=
  ⟨h.rw.below hb (Nat.le_refl _), Own.below h.ow hb (Own.lt h.ow), h.gz, h.vl, h.fx, h.ln, h.bl.trans (hb.mono h.bl.size)⟩
end Go.Proofs.YtlkdmpfifpkpaaaGreatDoor
namespace Go.Proofs.YtlkdmpfifpkpaaaGreatDoor
open Go.RowKit

theorem railway_at {bb bo cb tb tu ct : Nat} {x : Ln} {w : World} (hn : x.n ≤ 1000000000000) (hm : x.m ≤ 1000000000000) (hbk : BkC w bb bo x.n x.N x.I x.O) (hic : IC w tb tu x.m x.T) :
    ∀ w', Below w.heap.size w w' → Calls Tryz.prog 141 #[.agg #[.slice (some ⟨bb, bo, none⟩) x.n cb, .slice (some ⟨tb, tu, none⟩) x.m ct]] w' (RwO x w') := fun w' hb => railwayOf_any bb bo cb tb tu ct x w' hn hm (hbk.keep hb) (hic.keep hb)
def stO (x : Ln) (s : Int) (l : ByteArray) : Option Ln := if vldL x = true then stepO x s l else none
set_option linter.unusedSimpArgs false in
set_option maxHeartbeats 2000000 in
theorem lineStep_any (bb bo cb tb tu ct : Nat) (x : Ln) (s : Int) (l : ByteArray) (w : World) (hn : x.n ≤ 1000000000000) (hm : x.m ≤ 1000000000000) (hbk : BkC w bb bo x.n x.N x.I x.O) (hic : IC w tb tu x.m x.T) :
    Calls Tryz.prog 121 #[.agg #[.slice (some ⟨bb, bo, none⟩) x.n cb, .slice (some ⟨tb, tu, none⟩) x.m ct], .agg #[.int .i64 s, .string l]] w (LrR (stO x s l) w) := by
  have HBB : Hid (∀ a b c, Below w.heap.size w (((w.alloc a).alloc b).alloc c)) := fun a b c => ((below_all _ _).alloc (by simp) _).alloc (by simp; omega) _
  have HRW := Lib.hid (railway_at (cb := cb) (ct := ct) hn hm hbk hic)
  clear hbk hic
  go_enter Tryz.func121, Tryz.ntmps121
  go_wp2_with fail
  refine (HRW.out _ (HBB.out _ _ _)).mono ?_
  rintro e w1 ⟨hb1, h1⟩
  have HX1 : Hid (Bx w1 (w.heap.size + 1 + 1) 31 #[.slice none 0 0, .slice none 0 0]) := (Bx.newAt (by simp)).below hb1 (by simp)
  have HM1 : Hid (Bx w1 (w.heap.size + 1) 94 #[.int .i64 s, .string l]) := ((Bx.newAt (by simp)).alloc _).below hb1 (by simp)
  have HB1 : Hid (Below w.heap.size w w1) := (HBB.out _ _ _).trans (hb1.mono (by simp; omega))
  have hrc := HX1.out.cell
  have hrf := HX1.out.free
  have hmc := HM1.out.cell
  have hxl := HX1.out.lt
  rcases h1 with ⟨hv, s', rfl, hs⟩ | ⟨hv, rfl⟩
  · obtain ⟨r, gb, cb', gt, ct', rfl, hrw, k1, k2, k3⟩ := hs
    simp only [World.size_alloc] at k1 k2 k3
    have HR := Lib.hid hrw
    have HV : Hid (stO x s l = stepO x s l) := if_pos hv
    have hMO := move_any (w.heap.size + 1 + 1 + 1) r gb cb' gt ct' x s l w1 hn hm hrw ⟨by omega, by omega, by omega⟩
    have HMO := Lib.hid hMO
    clear hb1 hv hrw hMO
    cases ho : mvOk x s l
    · have HO := Lib.hid ho
      have HN : Hid (stO x s l = none) := by show _ = _; rw [HV.out]; unfold stepO; rw [ho]; rfl
      clear ho
      go_wp2_with fail
      refine HMO.out.mono ?_
      rintro e w2 ⟨rfl, hr2, hb2⟩
      rw [HO.out]
      have HX2 := Lib.hid (HX1.out.below hb2 (by omega))
      have HB2 : Hid (Below w.heap.size w w2) := HB1.out.trans (hb2.mono (by omega))
      clear hr2 hb2 hrc hrf hmc
      have hrc := HX2.out.cell
      have hrf := HX2.out.free
      go_wp2_with fail
      exact bodyPost_ret (v := .tuple #[nilLn, .bool false]) (by simp [results, Tryz.results121, go_sem, hrc, nilLn]) rfl ⟨(HB2.out.setCell (by dsimp only; omega) _).setCell (by dsimp only; omega) _, .inl ⟨HN.out, rfl⟩⟩
    · have HO := Lib.hid ho
      have HN : Hid (stO x s l = some (mvTo x s l)) := by show _ = _; rw [HV.out]; unfold stepO; rw [ho]; rfl
      clear ho
      go_wp2_with fail
      refine HMO.out.mono ?_
      rintro e w2 ⟨rfl, hr2, hb2⟩
      rw [HO.out]
      rw [HO.out, if_pos rfl] at hr2
      have HR2 := Lib.hid hr2
      have HX2 := Lib.hid (HX1.out.below hb2 (by omega))
      have HB2 : Hid (Below w.heap.size w w2) := HB1.out.trans (hb2.mono (by omega))
      clear hr2 hb2 hrc hrf hmc
      have HLI : Hid (Calls Tryz.prog 143 #[.pointer (some ⟨r, 0, none⟩)] w2 fun e w' => ∃ v, e = .returned v ∧ LnO w2.heap.size w' v (mvTo x s l) ∧ Below w2.heap.size w2 w') := line_any r gb cb' gt ct' (mvTo x s l) _ hn hm HR2.out
      go_wp2_with fail
      refine HLI.out.mono ?_
      rintro e w3 ⟨v, rfl, hl, hb⟩
      have HL3 := Lib.hid hl
      have HX3 := Lib.hid (HX2.out.below hb HX2.out.lt)
      have hz3 := HX2.out.lt
      have HB3 := Lib.hid (HB2.out.trans (hb.mono HB2.out.size))
      obtain ⟨g1, c1, g2, c2, rfl, _⟩ := hl
      clear hb
      have hrc := HX3.out.cell
      have hrf := HX3.out.free
      go_wp2_with fail
      refine bodyPost_ret (v := .tuple #[.agg #[.slice (some ⟨g1, 0, none⟩) (mvTo x s l).n c1, .slice (some ⟨g2, 0, none⟩) (mvTo x s l).m c2], .bool true]) (by simp [results, Tryz.results121, go_sem, hrc]) rfl ⟨(HB3.out.setCell (by dsimp only; omega) _).setCell (by dsimp only; omega) _, .inr ⟨mvTo x s l, _, HN.out, rfl, (((HL3.out.mono (D := w.heap.size + 3) (by omega)).setOther (by omega) _).setOther (by omega) _).mono (by omega)⟩⟩
  · have HN : Hid (stO x s l = none) := by show _ = _; unfold stO; rw [hv]; rfl
    clear hv hb1
    go_wp2_with fail
    exact bodyPost_ret (v := .tuple #[nilLn, .bool false]) (by simp [results, Tryz.results121, go_sem, hrc, nilLn]) rfl ⟨(HB1.out.setCell (by dsimp only; omega) _).setCell (by dsimp only; omega) _, .inl ⟨HN.out, rfl⟩⟩
end Go.Proofs.YtlkdmpfifpkpaaaGreatDoor
namespace Go.Proofs.YtlkdmpfifpkpaaaGreatDoor
open Go.RowKit

theorem BkC.setOther {w : World} {b off n : Nat} {N : Nat → Int} {I O : Nat → Bool} (h : BkC w b off n N I O) {a : Addr} (ha : b ≠ a.block) (v : Value) : BkC (w.setCell a v) b off n N I O := fun k hk => by
  obtain ⟨h1, h2, h3⟩ := h k hk
  have e : ∀ o, (w.setCell a v).cell? ⟨b, o, none⟩ = w.cell? ⟨b, o, none⟩ := fun o => World.cell?_of_block (w := w) (Below.heap_setCell _ _ _ _ ha)
  exact ⟨by rw [e]; exact h1, by rw [e]; exact h2, by rw [e]; exact h3⟩
theorem IC.setOther {w : World} {b off n : Nat} {f : Nat → Int} (h : IC w b off n f) {a : Addr} (ha : b ≠ a.block) (v : Value) : IC (w.setCell a v) b off n f := fun k hk => by
  have e : ∀ o, (w.setCell a v).cell? ⟨b, o, none⟩ = w.cell? ⟨b, o, none⟩ := fun o => World.cell?_of_block (w := w) (Below.heap_setCell _ _ _ _ ha)
  rw [e]; exact h k hk
/-- between two rounds of the reference's LineFinish -/
structure FsI (w wr : World) (b o c b2 o2 c2 g cap : Nat) (x y : Ln) (pre : List (Int × ByteArray)) : Prop where
  arg : Bx wr w.heap.size 31 #[.slice (some ⟨b, o, none⟩) y.n c, .slice (some ⟨b2, o2, none⟩) y.m c2]
  bk : BkC wr b o y.n y.N y.I y.O
  ic : IC wr b2 o2 y.m y.T
  lb : b < wr.heap.size
  lb2 : b2 < wr.heap.size
  nb : b ≠ w.heap.size
  nb2 : b2 ≠ w.heap.size
  ow : OwnMs wr g cap pre
  gz : w.heap.size < g
  vl : vldL y = true
  fx : pre ++ finX y = finX x
  ln : pre.length + (lefS y y.n).toNat ≤ 135
  bl : Below w.heap.size w wr
theorem FsI.below {w wr w' : World} {b o c b2 o2 c2 g cap : Nat} {x y : Ln} {pre : List (Int × ByteArray)} (h : FsI w wr b o c b2 o2 c2 g cap x y pre) (hb : Below wr.heap.size wr w') : FsI w w' b o c b2 o2 c2 g cap x y pre :=
  ⟨h.arg.below hb h.arg.lt, h.bk.keep hb, h.ic.keep hb, Nat.lt_of_lt_of_le h.lb hb.size, Nat.lt_of_lt_of_le h.lb2 hb.size, h.nb, h.nb2, Own.below h.ow hb (Own.lt h.ow), h.gz, h.vl, h.fx, h.ln, h.bl.trans (hb.mono h.bl.size)⟩
/-- a row of moves that is read -/
structure MsI (wr : World) (bm mo cm : Nat) (ms : List (Int × ByteArray)) : Prop where
  mv : MvsC wr bm mo ms.length (mvM ms) (mvS ms)
theorem MsI.below {wr w' : World} {bm mo cm : Nat} {ms : List (Int × ByteArray)} (h : MsI wr bm mo cm ms) (hb : Below wr.heap.size wr w') : MsI w' bm mo cm ms := ⟨h.mv.keep hb⟩
end Go.Proofs.YtlkdmpfifpkpaaaGreatDoor
namespace Go.Proofs.YtlkdmpfifpkpaaaGreatDoor
open Go.RowKit

/-- a new line -/
def newL (n m : Nat) : Ln := { n := n, N := fun _ => 0, I := fun _ => false, O := fun _ => false, m := m, T := fun _ => 0 }
def nwO (n t : Int) : Option Ln := if inB n 1 5 && inB t 0 5 then some (newL n.toNat t.toNat) else none
theorem nwO_yes {n t : Nat} (h1 : inB n 1 5 = true) (h2 : inB t 0 5 = true) : nwO n t = some (newL n t) := by
  unfold nwO
  rw [h1, h2]
  rfl
theorem nwO_n {n t : Int} (h1 : inB n 1 5 = false) : nwO n t = none := by
  unfold nwO
  rw [h1]
  rfl
theorem nwO_t {n t : Int} (h1 : inB t 0 5 = false) : nwO n t = none := by
  unfold nwO
  rw [h1, Bool.and_false]
  rfl
/-- behind the two rows of a new line -/
theorem nw_done {w wr : World} {g1 g2 n m : Nat} (h1 : Own wr g1 n n 3 76 (bkF (newL n m).N (newL n m).I (newL n m).O)) (h2 : Own wr g2 m m 1 3 (fun _ => .int .i64 0)) (hg : g1 ≠ g2) (h3 : w.heap.size + 1 ≤ g1) (h4 : w.heap.size + 1 ≤ g2) (hb : Below w.heap.size w wr) (n' t' : Int) (ho : nwO n' t' = some (newL n m)) :
    LrR (nwO n' t') w (.returned (.tuple #[.agg #[.slice (some ⟨g1, 0, none⟩) n n, .slice (some ⟨g2, 0, none⟩) m m], .bool true])) wr :=
  ⟨hb, .inr ⟨newL n m, _, ho, rfl, g1, n, g2, m, rfl, h1, h2, hg, by omega, by omega⟩⟩
theorem nw_two {w W : World} {z : Nat} (hz : z = W.heap.size) (hB : Below w.heap.size w W) (hs : w.heap.size + 1 ≤ W.heap.size) (n m : Nat) (hn : n ≤ 5) (hm : m ≤ 5) :
    Own ((W.alloc (.cells (madeCells #[.int .i64 0, .bool false, .bool false] (n * 3)) 76)).alloc (.cells (madeCells #[.int .i64 0] m) 3)) z n n 3 76 (bkF (newL n m).N (newL n m).I (newL n m).O) ∧
    Own ((W.alloc (.cells (madeCells #[.int .i64 0, .bool false, .bool false] (n * 3)) 76)).alloc (.cells (madeCells #[.int .i64 0] m) 3)) (z + 1) m m 1 3 (fun _ => .int .i64 0) ∧
    Below w.heap.size w ((W.alloc (.cells (madeCells #[.int .i64 0, .bool false, .bool false] (n * 3)) 76)).alloc (.cells (madeCells #[.int .i64 0] m) 3)) := by
  subst hz
  refine ⟨(own_bk0 W n (by omega)).alloc _, ?_, (hB.alloc (by omega) _).alloc (by simp; omega) _⟩
  have h := own_full1 (W.alloc (.cells (madeCells #[.int .i64 0, .bool false, .bool false] (n * 3)) 76)) (.int .i64 0) m 3 (by unfold maxLen; omega)
  rw [World.size_alloc] at h
  exact h
theorem nw_two' {w W : World} {z : Nat} (hz : z = W.heap.size) (hB : Below w.heap.size w W) (hs : w.heap.size + 1 ≤ W.heap.size) (n m : Nat) (hn : n ≤ 5) (hm : m ≤ 5) :
    Own ((W.alloc (.cells (madeCells #[.int .i64 0] m) 3)).alloc (.cells (madeCells #[.int .i64 0, .bool false, .bool false] (n * 3)) 76)) (z + 1) n n 3 76 (bkF (newL n m).N (newL n m).I (newL n m).O) ∧
    Own ((W.alloc (.cells (madeCells #[.int .i64 0] m) 3)).alloc (.cells (madeCells #[.int .i64 0, .bool false, .bool false] (n * 3)) 76)) z m m 1 3 (fun _ => .int .i64 0) ∧
    Below w.heap.size w ((W.alloc (.cells (madeCells #[.int .i64 0] m) 3)).alloc (.cells (madeCells #[.int .i64 0, .bool false, .bool false] (n * 3)) 76)) := by
  subst hz
  refine ⟨?_, (own_full1 W (.int .i64 0) m 3 (by unfold maxLen; omega)).alloc _, (hB.alloc (by omega) _).alloc (by simp; omega) _⟩
  have h := own_bk0 (W.alloc (.cells (madeCells #[.int .i64 0] m) 3)) n (by omega)
  rw [World.size_alloc] at h
  exact h
set_option linter.unusedSimpArgs false in
set_option maxHeartbeats 2000000 in
theorem lineNew_any (n t : Int) (w : World) (hn : -9223372036854775808 ≤ n ∧ n ≤ 9223372036854775807) :
    Calls Tryz.prog 16 #[.int .i64 n, .int .i64 t] w (LrR (nwO n t) w) := by
  have HBB : Hid (∀ a, Below w.heap.size w (w.alloc a)) := fun a => below_all _ _
  have hbx : ∀ o, (w.alloc (.cells #[.slice none 0 0, .slice none 0 0] 31)).cell? ⟨w.heap.size, o, none⟩ = (#[.slice none 0 0, .slice none 0 0] : Array Value)[o]? := box_new _ _ _
  have HSV := fun W => Lib.hid (sectionsValid_any n W hn)
  cases h1 : inB n 1 5
  · have HV := Lib.hid (nwO_n (t := t) h1)
    have H1 := Lib.hid h1
    clear h1 hn
    go_enter Tryz.func16, Tryz.ntmps16
    go_wp2_with fail
    refine (HSV _).out.mono ?_
    rintro e w' ⟨rfl, rfl⟩
    rw [H1.out]
    go_wp2_with fail
    exact bodyPost_ret (v := .tuple #[nilLn, .bool false]) (by simp [results, Tryz.results16, go_sem, hbx, nilLn]) rfl ⟨HBB.out _, .inl ⟨HV.out, rfl⟩⟩
  · have h1' := inB_true.1 h1
    have H1 := Lib.hid h1
    clear h1
    by_cases h2 : t < 0
    · have HV := Lib.hid (nwO_t (n := n) (inB_false.2 (by omega) : inB t 0 5 = false))
      clear hn
      go_enter Tryz.func16, Tryz.ntmps16
      go_wp2_with fail
      refine (HSV _).out.mono ?_
      rintro e w' ⟨rfl, rfl⟩
      rw [H1.out]
      go_wp2_with fail
      exact bodyPost_ret (v := .tuple #[nilLn, .bool false]) (by simp [results, Tryz.results16, go_sem, hbx, nilLn]) rfl ⟨HBB.out _, .inl ⟨HV.out, rfl⟩⟩
    by_cases h3 : 5 < t
    · have HV := Lib.hid (nwO_t (n := n) (inB_false.2 (by omega) : inB t 0 5 = false))
      clear hn
      go_enter Tryz.func16, Tryz.ntmps16
      go_wp2_with fail
      refine (HSV _).out.mono ?_
      rintro e w' ⟨rfl, rfl⟩
      rw [H1.out]
      go_wp2_with fail
      exact bodyPost_ret (v := .tuple #[nilLn, .bool false]) (by simp [results, Tryz.results16, go_sem, hbx, nilLn]) rfl ⟨HBB.out _, .inl ⟨HV.out, rfl⟩⟩
    obtain ⟨n, rfl⟩ := Int.eq_ofNat_of_zero_le (show 0 ≤ n by omega)
    obtain ⟨t, rfl⟩ := Int.eq_ofNat_of_zero_le (show 0 ≤ t by omega)
    have HV := Lib.hid (nwO_yes (n := n) (t := t) (inB_true.2 (by omega)) (inB_true.2 (by omega)))
    have hmkb := fun w => run_mk elBk n n (Nat.le_refl _) (by omega) (by omega) w
    have hmki := fun w => run_mk elInt t t (Nat.le_refl _) (by omega) (by omega) w
    simp only [Nat.mul_one] at hmki
    clear hn
    go_enter Tryz.func16, Tryz.ntmps16
    go_wp2_with fail
    refine (HSV _).out.mono ?_
    rintro e w' ⟨rfl, rfl⟩
    rw [H1.out]
    obtain ⟨W0, hW0⟩ : ∃ W0, W0 = (w.alloc (.cells #[.slice none 0 0, .slice none 0 0] 31)).drew := ⟨_, rfl⟩
    have hr0 : ∀ o, W0.cell? ⟨w.heap.size, o, none⟩ = (#[.slice none 0 0, .slice none 0 0] : Array Value)[o]? := by rw [hW0]; exact box_new _ _ _
    have hrf : ∀ o, W0.frozen? ⟨w.heap.size, o, none⟩ = false := by rw [hW0]; exact (Bx.new w 31 #[.slice none 0 0, .slice none 0 0]).free
    have hrs : w.heap.size < W0.heap.size := by rw [hW0]; simp
    have HB0 : Hid (Below w.heap.size w W0) := by rw [hW0]; exact (below_all w (.cells #[.slice none 0 0, .slice none 0 0] 31)).drew
    go_wp2_with fail
    refine wp_region_held_drew (S := (fun _ => True)) (by kernel_rfl) trivial (fun hHeld => ?_)
    rw [← hW0]
    clear hW0
    refine wpAnyH_take (i := 0) (oi := ?_) (v := ?_) ?_ (by kernel_rfl) (by kernel_rfl) (by kernel_rfl) ?_ ?_ (by assumption) ?_
    rotate_left 2
    · simp only [List.getElem?_toArray, List.getElem?_cons_succ, List.getElem?_cons_zero]; rfl
    · exact fun _ _ _ h => h
    · first
        | (refine Or.inr ⟨?_, ?_⟩ <;> rfl)
        | (refine Or.inl ⟨?_, ?_⟩; · rfl
           intro w hSw; (try dsimp only at hSw); go_simp; (try with_reducible rfl); done)
    try simp only [Act.put, List.setIfInBounds_toArray, List.set_cons_zero, List.set_cons_succ]
    refine wpAnyH_take (i := 2) (oi := ?_) (v := ?_) ?_ (by kernel_rfl) (by kernel_rfl) (by kernel_rfl) ?_ ?_ (by assumption) ?_
    rotate_left 2
    · simp only [List.getElem?_toArray, List.getElem?_cons_succ, List.getElem?_cons_zero]; rfl
    · exact fun _ _ _ h => h
    · first
        | (refine Or.inr ⟨?_, ?_⟩ <;> rfl)
        | (refine Or.inl ⟨?_, ?_⟩; · rfl
           intro w hSw; (try dsimp only at hSw); go_simp; (try with_reducible rfl); done)
    try simp only [Act.put, List.setIfInBounds_toArray, List.set_cons_zero, List.set_cons_succ]
    refine wpAnyH_ready (rs := [1, 3]) (by kernel_rfl) (by simp) ?_
    refine AllReadyH.cons (o := ?_) ?_ (fun K hK => ?_) ?_
    rotate_left 1
    · simp only [List.getElem?_toArray, List.getElem?_cons_succ, List.getElem?_cons_zero]; rfl
    · go_simp
      refine hK.out _ _ ?_ (fun hHeld => ?_)
      · exact trivial
      clear hK K
      try simp only [Act.put, List.setIfInBounds_toArray, List.set_cons_zero, List.set_cons_succ]
      refine wpAnyH_ready (rs := [3]) (by kernel_rfl) (by simp) ?_
      refine AllReadyH.cons (o := ?_) ?_ (fun K hK => ?_) AllReadyH.nil
      rotate_left 1
      · simp only [List.getElem?_toArray, List.getElem?_cons_succ, List.getElem?_cons_zero]; rfl
      go_simp
      refine hK.out _ _ ?_ (fun hHeld => ?_)
      · exact trivial
      clear hK K
      try simp only [Act.put, List.setIfInBounds_toArray, List.set_cons_zero, List.set_cons_succ]
      refine wpAnyH_take (i := 4) (oi := ?_) (v := ?_) ?_ (by kernel_rfl) (by kernel_rfl) (by kernel_rfl) ?_ ?_ (by assumption) ?_
      rotate_left 2
      · simp only [List.getElem?_toArray, List.getElem?_cons_succ, List.getElem?_cons_zero]; rfl
      · exact fun _ _ _ h => h
      · first
          | (refine Or.inr ⟨?_, ?_⟩ <;> rfl)
          | (refine Or.inl ⟨?_, ?_⟩; · rfl
             intro w hSw; (try dsimp only at hSw); go_simp; (try with_reducible rfl); done)
      try simp only [Act.put, List.setIfInBounds_toArray, List.set_cons_zero, List.set_cons_succ]
      refine wpAnyH_ready (rs := [5]) (by kernel_rfl) (by simp) ?_
      refine AllReadyH.cons (o := ?_) ?_ (fun K hK => ?_) AllReadyH.nil
      rotate_left 1
      · simp only [List.getElem?_toArray, List.getElem?_cons_succ, List.getElem?_cons_zero]; rfl
      go_simp
      refine hK.out _ _ ?_ (fun hHeld => ?_)
      · exact trivial
      clear hK K
      try simp only [Act.put, List.setIfInBounds_toArray, List.set_cons_zero, List.set_cons_succ]
      refine wpAnyH_take (i := 6) (oi := ?_) (v := ?_) ?_ (by kernel_rfl) (by kernel_rfl) (by kernel_rfl) ?_ ?_ (by assumption) ?_
      rotate_left 2
      · simp only [List.getElem?_toArray, List.getElem?_cons_succ, List.getElem?_cons_zero]; rfl
      · exact fun _ _ _ h => h
      · first
          | (refine Or.inr ⟨?_, ?_⟩ <;> rfl)
          | (refine Or.inl ⟨?_, ?_⟩; · rfl
             intro w hSw; (try dsimp only at hSw); go_simp; (try with_reducible rfl); done)
      try simp only [Act.put, List.setIfInBounds_toArray, List.set_cons_zero, List.set_cons_succ]
      refine wpAnyH_done (by kernel_rfl) ?_ _
      go_wp2_with fail
      refine bodyPost_ret (v := .tuple #[.agg #[.slice (some ⟨W0.heap.size, 0, none⟩) n n, .slice (some ⟨W0.heap.size + 1, 0, none⟩) t t], .bool true]) (by simp [results, Tryz.results16, Tryz.results17, go_sem, hr0, hrs]) rfl ?_
      obtain ⟨h1, h2, h3⟩ := nw_two (w := w) (W := (W0.setCell ⟨w.heap.size, 0, none⟩ (.slice (some ⟨W0.heap.size, 0, none⟩) n n)).setCell ⟨w.heap.size, 1, none⟩ (.slice (some ⟨W0.heap.size + 1, 0, none⟩) t t)) (z := W0.heap.size) (by simp) ((HB0.out.setCell (Nat.le_refl _) _).setCell (Nat.le_refl _) _) (by simp; omega) n t (by omega) (by omega)
      exact nw_done h1 h2 (by omega) (by omega) (by omega) h3 _ _ HV.out
    · refine AllReadyH.cons (o := ?_) ?_ (fun K hK => ?_) ?_
      rotate_left 1
      · simp only [List.getElem?_toArray, List.getElem?_cons_succ, List.getElem?_cons_zero]; rfl
      · go_simp
        refine hK.out _ _ ?_ (fun hHeld => ?_)
        · exact trivial
        clear hK K
        try simp only [Act.put, List.setIfInBounds_toArray, List.set_cons_zero, List.set_cons_succ]
        refine wpAnyH_ready (rs := [1]) (by kernel_rfl) (by simp) ?_
        refine AllReadyH.cons (o := ?_) ?_ (fun K hK => ?_) AllReadyH.nil
        rotate_left 1
        · simp only [List.getElem?_toArray, List.getElem?_cons_succ, List.getElem?_cons_zero]; rfl
        go_simp
        refine hK.out _ _ ?_ (fun hHeld => ?_)
        · exact trivial
        clear hK K
        try simp only [Act.put, List.setIfInBounds_toArray, List.set_cons_zero, List.set_cons_succ]
        refine wpAnyH_take (i := 4) (oi := ?_) (v := ?_) ?_ (by kernel_rfl) (by kernel_rfl) (by kernel_rfl) ?_ ?_ (by assumption) ?_
        rotate_left 2
        · simp only [List.getElem?_toArray, List.getElem?_cons_succ, List.getElem?_cons_zero]; rfl
        · exact fun _ _ _ h => h
        · first
            | (refine Or.inr ⟨?_, ?_⟩ <;> rfl)
            | (refine Or.inl ⟨?_, ?_⟩; · rfl
               intro w hSw; (try dsimp only at hSw); go_simp; (try with_reducible rfl); done)
        try simp only [Act.put, List.setIfInBounds_toArray, List.set_cons_zero, List.set_cons_succ]
        refine wpAnyH_ready (rs := [5]) (by kernel_rfl) (by simp) ?_
        refine AllReadyH.cons (o := ?_) ?_ (fun K hK => ?_) AllReadyH.nil
        rotate_left 1
        · simp only [List.getElem?_toArray, List.getElem?_cons_succ, List.getElem?_cons_zero]; rfl
        go_simp
        refine hK.out _ _ ?_ (fun hHeld => ?_)
        · exact trivial
        clear hK K
        try simp only [Act.put, List.setIfInBounds_toArray, List.set_cons_zero, List.set_cons_succ]
        refine wpAnyH_take (i := 6) (oi := ?_) (v := ?_) ?_ (by kernel_rfl) (by kernel_rfl) (by kernel_rfl) ?_ ?_ (by assumption) ?_
        rotate_left 2
        · simp only [List.getElem?_toArray, List.getElem?_cons_succ, List.getElem?_cons_zero]; rfl
        · exact fun _ _ _ h => h
        · first
            | (refine Or.inr ⟨?_, ?_⟩ <;> rfl)
            | (refine Or.inl ⟨?_, ?_⟩; · rfl
               intro w hSw; (try dsimp only at hSw); go_simp; (try with_reducible rfl); done)
        try simp only [Act.put, List.setIfInBounds_toArray, List.set_cons_zero, List.set_cons_succ]
        refine wpAnyH_done (by kernel_rfl) ?_ _
        go_wp2_with fail
        refine bodyPost_ret (v := .tuple #[.agg #[.slice (some ⟨W0.heap.size + 1, 0, none⟩) n n, .slice (some ⟨W0.heap.size, 0, none⟩) t t], .bool true]) (by simp [results, Tryz.results16, Tryz.results17, go_sem, hr0, hrs]) rfl ?_
        obtain ⟨h1, h2, h3⟩ := nw_two' (w := w) (W := (W0.setCell ⟨w.heap.size, 0, none⟩ (.slice (some ⟨W0.heap.size + 1, 0, none⟩) n n)).setCell ⟨w.heap.size, 1, none⟩ (.slice (some ⟨W0.heap.size, 0, none⟩) t t)) (z := W0.heap.size) (by simp) ((HB0.out.setCell (Nat.le_refl _) _).setCell (Nat.le_refl _) _) (by simp; omega) n t (by omega) (by omega)
        exact nw_done h1 h2 (by omega) (by omega) (by omega) h3 _ _ HV.out
      · exact AllReadyH.nil
end Go.Proofs.YtlkdmpfifpkpaaaGreatDoor
namespace Go.Proofs.YtlkdmpfifpkpaaaGreatDoor
open Go.RowKit

theorem cntA_none {f : Nat → Int} {p : Int} (h : ∀ i, f i ≠ p) : ∀ m, cntA f p m = 0
  | 0 => rfl
  | m + 1 => by
    simp only [cntA]
    rw [cntA_none h m, if_neg (h m)]
theorem newL_vld {n m : Nat} (h1 : 1 ≤ n) (h2 : n ≤ 5) (h3 : m ≤ 5) : vldL (newL n m) = true := by
  refine vldL_of (inB_true.2 ⟨by show (1 : Int) ≤ (n : Int); omega, by show (n : Int) ≤ 5; omega⟩) h3 (fun k _ => rfl) (fun i _ => ?_) (fun k _ => ?_)
  · rw [trOk_true]
    exact ⟨⟨Int.le_refl _, by show (0 : Int) ≤ 2 * (n : Int); omega⟩, .inr (Int.le_refl _)⟩
  · rw [cnOk_true]
    show cntA (fun _ => 0) (2 * (k : Int) + 1) m = 0
    exact cntA_none (fun i => by omega) m
/-- the boxes of the draw of a line -/
structure DlM (w wr : World) (R b3 g1 c1 g2 c2 : Nat) (y : Ln) (M : Nat) : Prop where
  res : Bx wr w.heap.size 31 #[.slice none 0 0, .slice none 0 0]
  box : Bx wr b3 31 #[.slice (some ⟨g1, 0, none⟩) y.n c1, .slice (some ⟨g2, 0, none⟩) y.m c2]
  bs : Own wr g1 c1 y.n 3 76 (bkF y.N y.I y.O)
  ts : Own wr g2 c2 y.m 1 3 (fun i => .int .i64 (y.T i))
  d : g1 ≠ g2
  d1 : b3 ≠ g1
  d2 : b3 ≠ g2
  h1 : w.heap.size < g1
  h2 : w.heap.size < g2
  h3 : w.heap.size < b3
  rd : RdL wr R M
  hR : R < w.heap.size
  gr : w.grownBy wr (some R)
section
variable {w wr w' : World} {R b3 g1 c1 g2 c2 M M' : Nat} {y : Ln}
theorem DlM.lts (h : DlM w wr R b3 g1 c1 g2 c2 y M) : w.heap.size < wr.heap.size ∧ b3 < wr.heap.size ∧ g1 < wr.heap.size ∧ g2 < wr.heap.size := ⟨h.res.lt, h.box.lt, h.bs.lt, h.ts.lt⟩
theorem DlM.below (h : DlM w wr R b3 g1 c1 g2 c2 y M) (hb : Below wr.heap.size wr w') : DlM w w' R b3 g1 c1 g2 c2 y M := by
  obtain ⟨z0, z1, z2, z3⟩ := h.lts
  exact ⟨h.res.below hb z0, h.box.below hb z1, h.bs.below hb z2, h.ts.below hb z3, h.d, h.d1, h.d2, h.h1, h.h2, h.h3, h.rd.keep hb, h.hR, grownBy_trans h.gr (grownBy_below hb _)⟩
theorem DlM.drew (h : DlM w wr R b3 g1 c1 g2 c2 y M) : DlM w wr.drew R b3 g1 c1 g2 c2 y M := h.below (Below.refl _ _).drew
theorem DlM.pick (h : DlM w wr R b3 g1 c1 g2 c2 y M) (hr : RdL w' R M') (hg : wr.grownBy w' (some R)) : DlM w w' R b3 g1 c1 g2 c2 y M' := by
  have a1 := h.hR
  have a2 := h.h1
  have a3 := h.h2
  have a4 := h.h3
  exact ⟨h.res.kept hg (by omega), h.box.kept hg (by omega), h.bs.kept hg (by simp; omega), h.ts.kept hg (by simp; omega), h.d, h.d1, h.d2, h.h1, h.h2, h.h3, hr, h.hR, grownBy_trans h.gr hg⟩
theorem grow_set {b o : Nat} {v : Value} (h : w.grownBy wr (some R)) (hb : w.heap.size ≤ b) : w.grownBy (wr.setCell ⟨b, o, none⟩ v) (some R) :=
  grow_new h (grownBy_setCell wr b o v) hb
theorem DlM.setBk (h : DlM w wr R b3 g1 c1 g2 c2 y M) (k : Nat) (a : Int) (b c : Bool) :
    DlM w (((wr.setCell ⟨g1, k * 3, none⟩ (.int .i64 a)).setCell ⟨g1, k * 3 + 1, none⟩ (.bool b)).setCell ⟨g1, k * 3 + 2, none⟩ (.bool c)) R b3 g1 c1 g2 c2 { y with N := upd y.N k a, I := upd y.I k b, O := upd y.O k c } M := by
  have a1 := h.h1
  have a4 := h.hR
  have d := h.d
  have d1 := h.d1
  exact ⟨((h.res.setOther (by dsimp only; omega) _).setOther (by dsimp only; omega) _).setOther (by dsimp only; omega) _, ((h.box.setOther (by dsimp only; omega) _).setOther (by dsimp only; omega) _).setOther (by dsimp only; omega) _, h.bs.setBk k a b c,
    ((h.ts.setOther (by dsimp only; omega) _).setOther (by dsimp only; omega) _).setOther (by dsimp only; omega) _, h.d, h.d1, h.d2, h.h1, h.h2, h.h3, ((h.rd.set (by omega)).set (by omega)).set (by omega), a4, grow_set (grow_set (grow_set h.gr (by omega)) (by omega)) (by omega)⟩
theorem DlM.setTr (h : DlM w wr R b3 g1 c1 g2 c2 y M) (k : Nat) (a : Int) :
    DlM w (wr.setCell ⟨g2, k, none⟩ (.int .i64 a)) R b3 g1 c1 g2 c2 { y with T := upd y.T k a } M := by
  have a1 := h.h2
  have a4 := h.hR
  have d := h.d
  have d2 := h.d2
  exact ⟨h.res.setOther (by dsimp only; omega) _, h.box.setOther (by dsimp only; omega) _, h.bs.setOther (by dsimp only; omega) _, h.ts.setInt k a, h.d, h.d1, h.d2, h.h1, h.h2, h.h3, h.rd.set (by omega), a4, grow_set h.gr (by omega)⟩
/-- one train more -/
theorem DlM.push {wa : World} {g' c' : Nat} {a : Int} (h : DlM w wr R b3 g1 c1 g2 c2 y M) (HA : Own wa g' c' (y.m + 1) 1 3 (fun i => .int .i64 (if i = y.m then a else y.T i))) (hg : wr.grownBy wa (some g2)) (hd : (g' = g2 ∧ c' = c2) ∨ wr.heap.size < g') :
    DlM w (wa.setCell ⟨b3, 1, none⟩ (.slice (some ⟨g', 0, none⟩) (y.m + 1) c')) R b3 g1 c1 g' c' { y with m := y.m + 1, T := upd y.T y.m a } M := by
  have a1 := h.h1
  have a2 := h.h2
  have a3 := h.h3
  have a4 := h.hR
  have d := h.d
  have d1 := h.d1
  have d2 := h.d2
  obtain ⟨z0, z1, z2, z3⟩ := h.lts
  have e1 : g1 ≠ g' := by rcases hd with ⟨q, _⟩ | q <;> omega
  have e2 : b3 ≠ g' := by rcases hd with ⟨q, _⟩ | q <;> omega
  have e3 : w.heap.size < g' := by rcases hd with ⟨q, _⟩ | q <;> omega
  refine ⟨(h.res.kept hg (by omega)).setOther (by dsimp only; omega) _, ?_, (h.bs.kept hg (by simp; omega)).setOther (by dsimp only; omega) _, Own.setOther HA (by dsimp only; omega) _, e1, d1, e2, a1, e3, a3, (h.rd.kept hg (by omega)).set (by omega), a4, grow_set (grow_new h.gr hg (by omega)) (by omega)⟩
  have hb := (h.box.kept hg (by omega)).set 1 (.slice (some ⟨g', 0, none⟩) (y.m + 1) c')
  simpa using hb
end
/-- a drawn line -/
def DLn (R M : Nat) (w : World) (e : Ending) (w' : World) : Prop :=
  ∃ v x, e = .returned v ∧ LnO w.heap.size w' v x ∧ 1 ≤ x.n ∧ x.n ≤ 4 ∧ x.m ≤ 5 ∧ RdL w' R M ∧ w.grownBy w' (some R)
theorem DlM.done {w wr : World} {R b3 g1 c1 g2 c2 M M' : Nat} {y : Ln} (h : DlM w wr R b3 g1 c1 g2 c2 y M) (h1 : 1 ≤ y.n) (h2 : y.n ≤ 4) (h3 : y.m ≤ 5) (hM : M ≤ M') (u0 u1 : Value) :
    DLn R M' w (.returned (.agg #[.slice (some ⟨g1, 0, none⟩) y.n c1, .slice (some ⟨g2, 0, none⟩) y.m c2])) ((wr.setCell ⟨w.heap.size, 0, none⟩ u0).setCell ⟨w.heap.size, 1, none⟩ u1) := by
  have a1 := h.h1
  have a2 := h.h2
  have a4 := h.hR
  exact ⟨_, y, rfl, ⟨g1, c1, g2, c2, rfl, (h.bs.setOther (by dsimp only; omega) _).setOther (by dsimp only; omega) _, (h.ts.setOther (by dsimp only; omega) _).setOther (by dsimp only; omega) _, h.d, by omega, by omega⟩, h1, h2, h3, (((h.rd.set (by omega)).set (by omega)).mono hM), grow_set (grow_set h.gr (Nat.le_refl _)) (Nat.le_refl _)⟩
end Go.Proofs.YtlkdmpfifpkpaaaGreatDoor
namespace Go.Proofs.YtlkdmpfifpkpaaaGreatDoor
open Go.RowKit

/-- a row of moves of its own, told by its numbers and letters; or nil -/
def RowNL (w : World) (v : Value) (q : Nat) (M : Nat → Int) (L : Nat → ByteArray) (g : Option Nat) : Prop :=
  (∃ b c, g = some b ∧ v = .slice (some ⟨b, 0, none⟩) q c ∧ Own w b c q 2 94 (mvF M L)) ∨ (g = none ∧ q = 0 ∧ v = .slice none 0 0)
theorem RowNL.below {w w' : World} {v : Value} {q : Nat} {M : Nat → Int} {L : Nat → ByteArray} {g : Option Nat} (h : RowNL w v q M L g) (hb : Below w.heap.size w w') : RowNL w' v q M L g := by
  rcases h with ⟨b, c, e, e2, h⟩ | h
  · exact .inl ⟨b, c, e, e2, h.below hb h.lt⟩
  · exact .inr h
theorem RowNL.grown {w w' : World} {v : Value} {q : Nat} {M : Nat → Int} {L : Nat → ByteArray} {g row : Option Nat} (h : RowNL w v q M L g) (hb : w.grownBy w' row) (hne : ∀ b, g = some b → row ≠ some b) : RowNL w' v q M L g := by
  rcases h with ⟨b, c, e, e2, h⟩ | h
  · exact .inl ⟨b, c, e, e2, h.kept hb (fun q => hne b e q.symm)⟩
  · exact .inr h
theorem RowNL.reads {w : World} {v : Value} {q : Nat} {M : Nat → Int} {L : Nat → ByteArray} {g : Option Nat} (h : RowNL w v q M L g) : MLs w v q M L := by
  rcases h with ⟨b, c, e, e2, h⟩ | ⟨e, e2, e3⟩
  · exact .inl ⟨b, 0, c, e2, MvsC.of_own h⟩
  · exact .inr ⟨e2, _, _, e3⟩
theorem RowNL.shape {w : World} {v : Value} {q : Nat} {M : Nat → Int} {L : Nat → ByteArray} {g : Option Nat} (h : RowNL w v q M L g) : ∃ ao c, v = .slice ao q c := h.reads.shape
theorem RowMs.row {z : Nat} {w : World} {v : Value} {ys : List (Int × ByteArray)} {g : Option Nat} (h : RowMs z w v ys g) : RowNL w v ys.length (mvM ys) (mvS ys) g ∧ (∀ c, g = some c → z ≤ c ∧ c < w.heap.size) := by
  rcases h with ⟨b, c, rfl, e2, e3, h⟩ | ⟨rfl, rfl, e2⟩
  · exact ⟨.inl ⟨b, c, rfl, e2, h⟩, fun c e => by cases e; exact ⟨e3, h.lt⟩⟩
  · exact ⟨.inr ⟨rfl, rfl, e2⟩, fun c e => by cases e⟩
end Go.Proofs.YtlkdmpfifpkpaaaGreatDoor
namespace Go.Proofs.YtlkdmpfifpkpaaaGreatDoor
open Go.RowKit

/-- a line in a box, rows of its own -/
structure LbM (w wr : World) (b g1 c1 g2 c2 : Nat) (x : Ln) : Prop where
  box : Bx wr b 31 #[.slice (some ⟨g1, 0, none⟩) x.n c1, .slice (some ⟨g2, 0, none⟩) x.m c2]
  bs : Own wr g1 c1 x.n 3 76 (bkF x.N x.I x.O)
  ts : Own wr g2 c2 x.m 1 3 (fun i => .int .i64 (x.T i))
  bl : Below w.heap.size w wr
  hn : x.n ≤ 1000000
  hm : x.m ≤ 1000000
section
variable {w wr w' : World} {b g1 c1 g2 c2 : Nat} {x : Ln}
theorem LbM.below (h : LbM w wr b g1 c1 g2 c2 x) (hb : Below wr.heap.size wr w') : LbM w w' b g1 c1 g2 c2 x :=
  ⟨h.box.below hb h.box.lt, h.bs.below hb h.bs.lt, h.ts.below hb h.ts.lt, h.bl.trans (hb.mono h.bl.size), h.hn, h.hm⟩
theorem LbM.drew (h : LbM w wr b g1 c1 g2 c2 x) : LbM w wr.drew b g1 c1 g2 c2 x := h.below (Below.refl _ _).drew
theorem LbM.alloc (h : LbM w wr b g1 c1 g2 c2 x) (o : Obj) : LbM w (wr.alloc o) b g1 c1 g2 c2 x := h.below (below_all _ _)
theorem LbM.new {z : Nat} (hb : Below w.heap.size w wr) (h : LnO z wr (.agg #[.slice (some ⟨g1, 0, none⟩) x.n c1, .slice (some ⟨g2, 0, none⟩) x.m c2]) x) (hn : x.n ≤ 1000000) (hm : x.m ≤ 1000000) :
    LbM w (wr.alloc (.cells #[.slice (some ⟨g1, 0, none⟩) x.n c1, .slice (some ⟨g2, 0, none⟩) x.m c2] 31)) wr.heap.size g1 c1 g2 c2 x := by
  obtain ⟨_, _, _, _, e, h1, h2, _⟩ := h
  cases e
  exact ⟨Bx.new _ _ _, h1.alloc _, h2.alloc _, hb.alloc hb.size _, hn, hm⟩
/-- a line that was put into a box of its own -/
theorem LbM.put {z q : Nat} {V : World} (hl : LnO z V (.agg #[.slice (some ⟨g1, 0, none⟩) x.n c1, .slice (some ⟨g2, 0, none⟩) x.m c2]) x) (hx : Bx V q 31 #[.slice (some ⟨g1, 0, none⟩) x.n c1, .slice (some ⟨g2, 0, none⟩) x.m c2]) (hb : Below w.heap.size w V) (hn : x.n ≤ 1000000) (hm : x.m ≤ 1000000) :
    LbM w V q g1 c1 g2 c2 x := by
  obtain ⟨_, _, _, _, e, h1, h2, _⟩ := hl
  cases e
  exact ⟨hx, h1, h2, hb, hn, hm⟩
/-- moves handed back, by their reading -/
def MvV (w : World) (v : Value) (ms : List (Int × ByteArray)) : Prop := MLs w v ms.length (mvM ms) (mvS ms)
theorem MvV.keep {v : Value} {ms : List (Int × ByteArray)} (h : MvV w v ms) (hb : Below w.heap.size w w') : MvV w' v ms := MLs.keep h hb
theorem MvV.shape {v : Value} {ms : List (Int × ByteArray)} (h : MvV w v ms) : ∃ ao c, v = .slice ao ms.length c := MLs.shape h
theorem MvV.at {ao : Option Addr} {c i : Nat} {ms : List (Int × ByteArray)} (h : MvV w (.slice ao ms.length c) ms) (hi : i < ms.length) : ∃ bm mo, ao = some ⟨bm, mo, none⟩ ∧ w.cell? ⟨bm, mo + i * 2, none⟩ = some (.int .i64 (ms[i]).1) ∧ w.cell? ⟨bm, mo + i * 2 + 1, none⟩ = some (.string (ms[i]).2) := by
  rcases h with ⟨bm, mo, c', e, h⟩ | ⟨h0, _⟩
  · cases e
    obtain ⟨h1, h2⟩ := h i hi
    refine ⟨bm, mo, rfl, ?_, ?_⟩
    · rw [h1]; unfold mvM; rw [List.getElem?_eq_getElem hi]; rfl
    · rw [h2]; unfold mvS; rw [List.getElem?_eq_getElem hi]; rfl
  · omega
/-- moves handed back in a row -/
def MvA (w : World) (v : Value) (ms : List (Int × ByteArray)) : Prop := ∃ b o c, v = .slice (some ⟨b, o, none⟩) ms.length c ∧ ms.length ≤ c ∧ MvsC w b o ms.length (mvM ms) (mvS ms)
theorem MvA.keep {v : Value} {ms : List (Int × ByteArray)} (h : MvA w v ms) (hb : Below w.heap.size w w') : MvA w' v ms := by
  obtain ⟨b, o, c, e, hc, h⟩ := h
  exact ⟨b, o, c, e, hc, h.keep hb⟩
theorem LbM.step (h : LbM w wr b g1 c1 g2 c2 x) (s : Int) (l : ByteArray) : Calls Tryz.prog 121 #[.agg #[.slice (some ⟨g1, 0, none⟩) x.n c1, .slice (some ⟨g2, 0, none⟩) x.m c2], .agg #[.int .i64 s, .string l]] wr (LrR (stO x s l) wr) :=
  lineStep_any g1 0 c1 g2 0 c2 x s l wr (by have := h.hn; omega) (by have := h.hm; omega) (BkC.of_own h.bs) (IC.of_own h.ts)
end
theorem LrR.some {o : Option Ln} {y : Ln} {w w' : World} {e : Ending} (h : LrR o w e w') (ho : o = some y) : ∃ v, e = .returned (.tuple #[v, .bool true]) ∧ LnO w.heap.size w' v y ∧ Below w.heap.size w w' := by
  obtain ⟨hb, ⟨h1, _⟩ | ⟨y', v, h1, h2, h3⟩⟩ := h
  · rw [ho] at h1; cases h1
  · rw [ho] at h1; cases h1; exact ⟨v, h2, h3, hb⟩
end Go.Proofs.YtlkdmpfifpkpaaaGreatDoor
namespace Go.Proofs.YtlkdmpfifpkpaaaGreatDoor
open Go.RowKit

/-- the lines of a script, with what is behind the last newline -/
def lnT (t : ByteArray) : List ByteArray := Lib.splitB ⟨#[10]⟩ 0 (Lib.countB t ⟨#[10]⟩) t
def lnI (t : ByteArray) (i : Nat) : ByteArray := ((lnT t)[i]?).getD ⟨#[]⟩
theorem lnT_len (t : ByteArray) : (lnT t).length = Lib.countB t ⟨#[10]⟩ + 1 := Lib.splitB_all ⟨#[10]⟩ (by decide) 0 _ t rfl
theorem ln_cell (t : ByteArray) (w : World) {i : Nat} (h : i < (lnT t).length) : (w.alloc (.cells ((lnT t).map Value.string).toArray 9)).cell? ⟨w.heap.size, i, none⟩ = some (.string (lnI t i)) := by
  have hh : (w.alloc (.cells ((lnT t).map Value.string).toArray 9)).heap[w.heap.size]? = some (.cells ((lnT t).map Value.string).toArray 9 (0, 0)) := heap_alloc_new _ _
  simp only [World.cell?, hh]
  unfold lnI
  simp [h]
/-- the output of the first lines -/
def exO (out : Nat → ByteArray) : Nat → List UInt8
  | 0 => []
  | k + 1 => exO out k ++ ((out k).data.toList ++ [10])
theorem exO_len {out : Nat → ByteArray} (h : ∀ k, (out k).size ≤ 1000000) : ∀ k, (exO out k).length ≤ 1000001 * k
  | 0 => Nat.zero_le _
  | k + 1 => by
    have := exO_len h k
    have h2 : (out k).data.toList.length ≤ 1000000 := by have := h k; simpa using this
    simp only [exO, List.length_append, List.length_cons, List.length_nil]
    omega
/-- the last line of the output -/
def exT (a b : Nat) : ByteArray := ⟨#[116, 114, 97, 105, 110, 115, 32]⟩ ++ ⟨(Lib.decDigits a).toArray⟩ ++ ⟨#[32, 112, 97, 116, 104, 115, 32]⟩ ++ ⟨(Lib.decDigits b).toArray⟩ ++ ⟨#[10]⟩
/-- what Execute keeps besides the session -/
structure ExM (w wr : World) (t : ByteArray) (s ob bl : Nat) (own : Nat → Prop) (o : List UInt8) : Prop where
  sb : SbS (fun q => ¬ own q ∧ q ≠ bl) w.heap.size ob (Lib.byteCells o) wr
  ln : ∀ i, i < (lnT t).length → wr.cell? ⟨bl, i, none⟩ = some (.string (lnI t i))
  bo : ¬ own bl
  bz : bl < wr.heap.size
  zl : w.heap.size ≤ bl
  ow : own s
  oz : ∀ q, own q → w.heap.size ≤ q ∧ q < wr.heap.size
  bd : Below w.heap.size w wr
theorem dd_size {n : Nat} (h : n < 100) : (⟨(Lib.decDigits n).toArray⟩ : ByteArray).size ≤ 21 := by
  have q := Lib.itoa_length_le (n : Int) (by omega) (by omega)
  have e : Lib.itoa (n : Int) = Lib.decDigits n := by
    unfold Lib.itoa
    rw [if_neg (by omega), show ((n : Nat) : Int).toNat = n by omega]
  rw [e] at q
  show (Lib.decDigits n).toArray.size ≤ 21
  simpa using q
set_option maxRecDepth 100000 in
set_option maxHeartbeats 4000000 in
set_option linter.unusedSimpArgs false in
theorem execute_gen (t : ByteArray) (m : Int) (w : World) (hsz : t.size ≤ 500) (hm : w.cell? ⟨0, 0, none⟩ = some (.int .i64 m)) (St : Nat → (Nat → Prop) → World → Nat → Prop) (out : Nat → ByteArray) (tr pn : Nat)
    (hout : ∀ k, (out k).size ≤ 1000000) (htr : tr < 100) (hpn : pn < 100)
    (hinit : ∀ W s g1 c1 g2 c2, Below w.heap.size w W → w.heap.size ≤ g1 → w.heap.size ≤ g2 → g1 ≠ g2 → g1 < s → g2 < s → Bx W s 56 #[.slice (some ⟨g1, 0, none⟩) 1 c1, .slice (some ⟨g2, 0, none⟩) 0 c2, .slice none 0 0, .int .i64 0, .slice none 0 0, .slice none 0 0] →
      Own W g1 c1 1 3 76 (bkF (newL 1 0).N (newL 1 0).I (newL 1 0).O) → Own W g2 c2 0 1 3 (fun i => .int .i64 ((newL 1 0).T i)) → St 0 (fun q => q = s ∨ q = g1 ∨ q = g2) W s)
    (hkeep : ∀ k own W W' s, St k own W s → Fr (fun q => ¬ own q) W W' → St k own W' s)
    (hstep : ∀ k own W s, k + 1 < (lnT t).length → St k own W s → Below w.heap.size w W → (∀ q, own q → w.heap.size ≤ q ∧ q < W.heap.size) → Calls Tryz.prog 37 #[.pointer (some ⟨s, 0, none⟩), .string (lnI t k)] W fun e w' => e = .returned (.string (out k)) ∧ ∃ own', St (k + 1) own' w' s ∧ Fr own W w' ∧ own' s ∧ ∀ q, own' q → (own q ∨ W.heap.size ≤ q) ∧ q < w'.heap.size)
    (hend : ∀ own W s, St ((lnT t).length - 1) own W s → (∃ a c, W.cell? ⟨s, 1, none⟩ = some (.slice a tr c)) ∧ ∃ a c, W.cell? ⟨s, 2, none⟩ = some (.slice a pn c)) :
    Calls Tryz.prog 11 #[.string t] w fun e w' => e = .returned (.string ⟨(exO out ((lnT t).length - 1) ++ (exT tr pn).data.toList).toArray⟩) ∧ Below w.heap.size w w' := by
  have H00 : 0 < w.heap.size := World.block_lt_of_cell? w ⟨0, 0, none⟩ hm
  have HSP : Hid (∀ W, Below w.heap.size w W → Calls Tryz.prog 35 #[.string t, .string ⟨#[10]⟩] W fun e w' => e = .returned (.slice (some ⟨W.heap.size, 0, none⟩) (lnT t).length (lnT t).length) ∧ w' = W.alloc (.cells ((lnT t).map Value.string).toArray 9)) := fun W h => by
    have q := Tryz.strings_Split t ⟨#[10]⟩ m W (by omega) (by rw [h.cell (p := ⟨0, 0, none⟩) H00]; exact hm) (by decide)
    rw [← lnT_len] at q
    exact q
  have HIN := Lib.hid hinit
  have HKE := Lib.hid hkeep
  have HST := Lib.hid hstep
  have HEN := Lib.hid hend
  have HLN := Lib.hid (lineNew_any 1 0 w (by omega))
  have HNW : Hid (nwO 1 0 = some (newL 1 0)) := rfl
  clear hinit hkeep hstep hend
  go_enter Tryz.func11, Tryz.ntmps11
  go_wp2_with fail
  refine HLN.out.mono ?_
  rintro e w1 h1
  obtain ⟨v, rfl, hl1, hb1⟩ := h1.some HNW.out
  have HL1 := Lib.hid hl1
  have HB1 := Lib.hid hb1
  obtain ⟨g1, c1, g2, c2, rfl, _⟩ := hl1
  clear hb1 h1
  have HS2 : Hid (Bx (((w1.alloc (.cells #[.slice (some ⟨g1, 0, none⟩) (newL 1 0).n c1, .slice (some ⟨g2, 0, none⟩) (newL 1 0).m c2] 31)).alloc (.cells #[.slice (some ⟨g1, 0, none⟩) (newL 1 0).n c1, .slice (some ⟨g2, 0, none⟩) (newL 1 0).m c2, .slice none 0 0, .int .i64 0, .slice none 0 0, .slice none 0 0] 56)).alloc (.cells #[.pointer none, .slice none 0 0] 59)) (w1.heap.size + 1) 56 #[.slice (some ⟨g1, 0, none⟩) (newL 1 0).n c1, .slice (some ⟨g2, 0, none⟩) (newL 1 0).m c2, .slice none 0 0, .int .i64 0, .slice none 0 0, .slice none 0 0]) := (Bx.newAt (by simp)).alloc _
  have HO2 : Hid (Bx (((w1.alloc (.cells #[.slice (some ⟨g1, 0, none⟩) (newL 1 0).n c1, .slice (some ⟨g2, 0, none⟩) (newL 1 0).m c2] 31)).alloc (.cells #[.slice (some ⟨g1, 0, none⟩) (newL 1 0).n c1, .slice (some ⟨g2, 0, none⟩) (newL 1 0).m c2, .slice none 0 0, .int .i64 0, .slice none 0 0, .slice none 0 0] 56)).alloc (.cells #[.pointer none, .slice none 0 0] 59)) (w1.heap.size + 1 + 1) 59 #[.pointer none, .slice none 0 0]) := Bx.newAt (by simp)
  have HBW : Hid (Below w1.heap.size w1 (((w1.alloc (.cells #[.slice (some ⟨g1, 0, none⟩) (newL 1 0).n c1, .slice (some ⟨g2, 0, none⟩) (newL 1 0).m c2] 31)).alloc (.cells #[.slice (some ⟨g1, 0, none⟩) (newL 1 0).n c1, .slice (some ⟨g2, 0, none⟩) (newL 1 0).m c2, .slice none 0 0, .int .i64 0, .slice none 0 0, .slice none 0 0] 56)).alloc (.cells #[.pointer none, .slice none 0 0] 59))) := ((below_all _ _).alloc (by simp) _).alloc (by simp; omega) _
  go_wp2_with fail
  generalize ((w1.alloc (.cells #[.slice (some ⟨g1, 0, none⟩) (newL 1 0).n c1, .slice (some ⟨g2, 0, none⟩) (newL 1 0).m c2] 31)).alloc (.cells #[.slice (some ⟨g1, 0, none⟩) (newL 1 0).n c1, .slice (some ⟨g2, 0, none⟩) (newL 1 0).m c2, .slice none 0 0, .int .i64 0, .slice none 0 0, .slice none 0 0] 56)).alloc (.cells #[.pointer none, .slice none 0 0] 59) = W2 at *
  have HB2 := Lib.hid (HB1.out.trans (HBW.out.mono HB1.out.size))
  refine (HSP.out _ HB2.out).mono ?_
  rintro e W3 ⟨rfl, rfl⟩
  have hzw := HB1.out.size
  have hzs := HS2.out.lt
  have hzo := HO2.out.lt
  have HM : Hid (∃ own, St 0 own (W2.alloc (.cells ((lnT t).map Value.string).toArray 9)) (w1.heap.size + 1) ∧ ExM w (W2.alloc (.cells ((lnT t).map Value.string).toArray 9)) t (w1.heap.size + 1) (w1.heap.size + 1 + 1) W2.heap.size own []) := by
    obtain ⟨_, _, _, _, e, hl2, hl3, hgne, hg1, hg2⟩ := HL1.out
    cases e
    have hg1l := hl2.lt
    have hg2l := hl3.lt
    have hst := HIN.out W2 (w1.heap.size + 1) g1 c1 g2 c2 HB2.out hg1 hg2 hgne (by omega) (by omega) HS2.out (hl2.below HBW.out hl2.lt) (hl3.below HBW.out hl3.lt)
    have ha := below_all W2 (.cells ((lnT t).map Value.string).toArray 9)
    refine ⟨_, HKE.out _ _ _ _ _ hst (Fr.of_below ha _), ?_, fun i hi => ln_cell t W2 hi, by omega, by simp, by omega, .inl rfl, fun q hq => ?_, HB2.out.trans (ha.mono HB2.out.size)⟩
    · have hx : Bx (W2.alloc (.cells ((lnT t).map Value.string).toArray 9)) (w1.heap.size + 1 + 1) 59 #[.pointer none, .slice none 0 0] := HO2.out.alloc _
      exact ⟨_, .inl rfl, by omega, by omega, _, hx, ⟨rfl, .inl ⟨rfl, rfl⟩⟩, by simp [Value.ownBlock], fun q hq => by simp [Value.ownBlock] at hq⟩
    · have : (W2.alloc (.cells ((lnT t).map Value.string).toArray 9)).heap.size = W2.heap.size + 1 := by simp
      omega
  clear HS2 HO2 HBW HB1 HL1 HLN HNW HB2 HIN HSP
  generalize W2.alloc (.cells ((lnT t).map Value.string).toArray 9) = W3 at *
  have hlen := lnT_len t
  have hl1 : 1 ≤ (lnT t).length := by omega
  have hl5 : (lnT t).length ≤ 501 := by have := Lib.countB_le ⟨#[10]⟩ (by decide) t.size t (Nat.le_refl _); omega
  clear hlen
  have hv1 : IntKind.i64.wrap (((lnT t).length : Int) - 1) = ((lnT t).length : Int) - 1 := IntWalk.i64_in _ (by omega)
  have hv2 : (((lnT t).length : Int) - 1).toNat = (lnT t).length - 1 := by omega
  have hv3 : (0 : Int) ≤ ((lnT t).length : Int) - 1 := by omega
  have hv4 : ((lnT t).length : Int) - 1 ≤ ((lnT t).length : Int) := by omega
  have hv5 : (1 : Int) ≤ ((lnT t).length : Int) := by omega
  have HZ3 : Hid (w1.heap.size + 1 + 1 < W2.heap.size) := hzo
  generalize w1.heap.size + 1 + 1 = ob at *
  generalize w1.heap.size + 1 = sb at *
  generalize W2.heap.size = bl at *
  go_wp2_with fail
  go_loopw [9, 28] (fun _ i wr => ∃ k : Nat, k ≤ (lnT t).length - 1 ∧ i = .int .i64 k ∧ Hid (∃ own, St k own wr sb ∧ ExM w wr t sb ob bl own (exO out k))) (fun _ i _ => (lnT t).length - 1 - (intOf i).toNat)
  case atStart => exact ⟨0, Nat.zero_le _, rfl, HM⟩
  case round =>
    obtain ⟨k, hk, rfl, HI⟩ := hrel
    obtain ⟨own, hst, hex⟩ := HI.out
    have HS := Lib.hid hst
    have HE := Lib.hid hex
    clear hst hex HI
    by_cases hlt : k < (lnT t).length - 1
    · have hcc := HE.out.ln k (by omega)
      have hki : (k : Int) < ((lnT t).length : Int) - 1 := by omega
      have hkn : k < (lnT t).length := by omega
      have HAN := Lib.hid (HST.out k own wr sb (by omega) HS.out HE.out.bd HE.out.oz)
      have hos := hout k
      have hss1 : ¬ 9223372036854775807 < (out k).size + 1 := by omega
      go_wp2_with fail
      refine HAN.out.mono ?_
      rintro e w4 ⟨rfl, own', hst, hf, hos', hoq⟩
      have HS4 := Lib.hid hst
      have HF4 := Lib.hid hf
      have HOS := Lib.hid hos'
      have HOQ := Lib.hid hoq
      have hz4 := hf.size
      have HB4 : Hid (Below w.heap.size w w4) := HE.out.bd.trans (hf.below (fun q hq => (HE.out.oz q hq).1) HE.out.bd.size)
      have hsb : SbS (fun q => ¬ own' q ∧ q ≠ bl) w.heap.size ob (Lib.byteCells (exO out k)) w4 := by
        have q1 : SbS (fun q => ¬ own q ∧ q ≠ bl ∧ q < wr.heap.size) w.heap.size ob (Lib.byteCells (exO out k)) wr := HE.out.sb.imp (fun q hq h => ⟨h.1, h.2, hq⟩)
        exact (q1.fr hf (fun q h => h.1)).imp (fun q _ h => ⟨fun ho => by rcases (hoq q ho).1 with h2 | h2
                                                                          · exact h.1 h2
                                                                          · omega, h.2.1⟩)
      have HSB := Lib.hid hsb
      have hln := exO_len hout k
      clear hst hf hos' hoq HAN hsb
      have HWS := Lib.hid (writeStringF_any (fun q => ¬ own' q ∧ q ≠ bl) w.heap.size ob (Lib.byteCells (exO out k)) (out k ++ ⟨#[10]⟩) w4 HSB.out (by simp only [Lib.byteCells_length, ByteArray.size_append]; have : (⟨#[10]⟩ : ByteArray).size = 1 := rfl; omega) HB4.out.size)
      go_wp2_with fail
      refine HWS.out.mono ?_
      rintro e w5 ⟨rfl, hsb, hb5, hf5⟩
      have HN : Hid (∃ own, St (k + 1) own w5 sb ∧ ExM w w5 t sb ob bl own (exO out (k + 1))) := by
        have hz5 := hf5.size
        refine ⟨own', HKE.out _ _ _ _ _ HS4.out (hf5.mono (fun q _ h => h.1)), ?_, fun i hi => ?_, fun ho => ?_, ?_, HE.out.zl, HOS.out, fun q hq => ?_, HB4.out.trans hb5⟩
        · have e1 : Lib.byteCells (exO out (k + 1)) = Lib.byteCells (exO out k) ++ Lib.strCells (out k ++ ⟨#[10]⟩) := by
            simp only [exO]
            rw [Lib.byteCells_append, Lib.strCells_eq, ByteArray.data_append, Array.toList_append]
          rw [e1]
          refine hsb.imp (fun q hq h => ?_)
          rcases h with h | h
          · exact h
          · refine ⟨fun ho => by have := (HOQ.out q ho).2; omega, ?_⟩
            have := HE.out.bz
            omega
        · have h1 := HE.out.ln i hi
          have h2 : w4.heap[bl]? = wr.heap[bl]? := HF4.out.block bl HE.out.bz HE.out.bo
          have h3 : w5.heap[bl]? = w4.heap[bl]? := hf5.block bl (by have := HE.out.bz; omega) (fun h => h.2 rfl)
          rw [World.cell?_of_block (a := ⟨bl, i, none⟩) h3, World.cell?_of_block (a := ⟨bl, i, none⟩) h2]
          exact h1
        · rcases (HOQ.out bl ho).1 with h2 | h2
          · exact HE.out.bo h2
          · have := HE.out.bz; omega
        · have := HE.out.bz; omega
        · have h2 := HOQ.out q hq
          refine ⟨?_, by omega⟩
          rcases h2.1 with h3 | h3
          · exact (HE.out.oz q h3).1
          · have := HE.out.bd.size; omega
      clear hsb hb5 hf5 HWS hcc
      go_wp2_with fail
      go_roundw
      case rel => exact ⟨k + 1, by omega, by go_num, HN.out⟩
      case measure => simp [intOf]; omega
    · obtain rfl : k = (lnT t).length - 1 := by omega
      obtain ⟨⟨a1, n1, hp1⟩, ⟨a2, n2, hp2⟩⟩ := HEN.out own wr sb HS.out
      have hsl : sb < wr.heap.size := (HE.out.oz sb HE.out.ow).2
      have HCC : Hid (∀ W, Fr (fun q => ¬ own q) wr W → W.cell? ⟨sb, 1, none⟩ = some (.slice a1 tr n1) ∧ W.cell? ⟨sb, 2, none⟩ = some (.slice a2 pn n2)) := fun W h => by
        have hb : W.heap[sb]? = wr.heap[sb]? := h.block sb hsl (fun q => q HE.out.ow)
        rw [World.cell?_of_block (a := ⟨sb, 1, none⟩) hb, World.cell?_of_block (a := ⟨sb, 2, none⟩) hb]
        exact ⟨hp1, hp2⟩
      clear hp1 hp2
      have hln := exO_len hout ((lnT t).length - 1)
      have hd1 : (⟨(Lib.decDigits tr).toArray⟩ : ByteArray).size ≤ 21 := dd_size htr
      have hd2 : (⟨(Lib.decDigits pn).toArray⟩ : ByteArray).size ≤ 21 := dd_size hpn
      have HET : Hid (exT tr pn = ⟨#[116, 114, 97, 105, 110, 115, 32]⟩ ++ ⟨(Lib.decDigits tr).toArray⟩ ++ ⟨#[32, 112, 97, 116, 104, 115, 32]⟩ ++ ⟨(Lib.decDigits pn).toArray⟩ ++ ⟨#[10]⟩) := rfl
      have HIT : Hid (∀ W, Calls Tryz.prog 38 #[.int .i64 tr] W fun e w' => e = .returned (.string ⟨(Lib.decDigits tr).toArray⟩) ∧ w' = W) := fun W => Tryz.strconv_Itoa_small tr htr W
      have HIP : Hid (∀ W, Calls Tryz.prog 38 #[.int .i64 pn] W fun e w' => e = .returned (.string ⟨(Lib.decDigits pn).toArray⟩) ∧ w' = W) := fun W => Tryz.strconv_Itoa_small pn hpn W
      have HWD : Hid (Fr (fun q => ¬ own q) wr wr.drew) := Fr.of_below (Below.refl _ _).drew _
      have HSB : Hid (SbS (fun q => ¬ own q ∧ q ≠ bl) w.heap.size ob (Lib.byteCells (exO out ((lnT t).length - 1))) wr.drew) := HE.out.sb.fr (Fr.of_below (Below.refl _ _).drew (fun _ => False)) (fun _ _ h => h)
      generalize (⟨(Lib.decDigits tr).toArray⟩ : ByteArray) = dt at *
      generalize (⟨(Lib.decDigits pn).toArray⟩ : ByteArray) = dp at *
      have hs1 : ¬ 9223372036854775807 < 7 + dt.size := by omega
      have hs2 : ¬ 9223372036854775807 < 7 + dt.size + 7 := by omega
      have hs3 : ¬ 9223372036854775807 < 7 + dt.size + 7 + dp.size := by omega
      have hs4 : ¬ 9223372036854775807 < 7 + dt.size + 7 + dp.size + 1 := by omega
      go_wp2_with fail
      refine wp_region_held_drew (S := fun W => W.cell? ⟨sb, 1, none⟩ = some (.slice a1 tr n1) ∧ W.cell? ⟨sb, 2, none⟩ = some (.slice a2 pn n2)) (by kernel_rfl) (HCC.out _ HWD.out) (fun hHeld => ?_)
      refine wpAnyH_take (i := 0) (oi := ?_) (v := ?_) ?_ (by kernel_rfl) (by kernel_rfl) (by kernel_rfl) ?_ ?_ (by assumption) ?_
      rotate_left 2
      · simp only [List.getElem?_toArray, List.getElem?_cons_succ, List.getElem?_cons_zero]; rfl
      · exact fun _ _ _ h => h
      · first
          | (refine Or.inr ⟨?_, ?_⟩ <;> rfl)
          | (refine Or.inl ⟨?_, ?_⟩; · rfl
             intro w hSw; (try dsimp only at hSw); go_simp; (try with_reducible rfl); done)
      try simp only [Act.put, List.setIfInBounds_toArray, List.set_cons_zero, List.set_cons_succ]
      refine wpAnyH_take (i := 1) (oi := ?_) (v := ?_) ?_ (by kernel_rfl) (by kernel_rfl) (by kernel_rfl) ?_ ?_ (by assumption) ?_
      rotate_left 2
      · simp only [List.getElem?_toArray, List.getElem?_cons_succ, List.getElem?_cons_zero]; rfl
      · exact fun _ _ _ h => h
      · first
          | (refine Or.inr ⟨?_, ?_⟩ <;> rfl)
          | (refine Or.inl ⟨?_, ?_⟩; · rfl
             intro w hSw; (try dsimp only at hSw); go_simp; (try with_reducible rfl); done)
      try simp only [Act.put, List.setIfInBounds_toArray, List.set_cons_zero, List.set_cons_succ]
      refine wpAnyH_take (i := 2) (oi := ?_) (v := ?_) ?_ (by kernel_rfl) (by kernel_rfl) (by kernel_rfl) ?_ ?_ (by assumption) ?_
      rotate_left 2
      · simp only [List.getElem?_toArray, List.getElem?_cons_succ, List.getElem?_cons_zero]; rfl
      · exact fun _ _ _ h => h
      · first
          | (refine Or.inr ⟨?_, ?_⟩ <;> rfl)
          | (refine Or.inl ⟨?_, ?_⟩; · rfl
             intro w hSw; (try dsimp only at hSw); go_simp; (try with_reducible rfl); done)
      try simp only [Act.put, List.setIfInBounds_toArray, List.set_cons_zero, List.set_cons_succ]
      refine wpAnyH_take (i := 3) (oi := ?_) (v := ?_) ?_ (by kernel_rfl) (by kernel_rfl) (by kernel_rfl) ?_ ?_ (by assumption) ?_
      rotate_left 2
      · simp only [List.getElem?_toArray, List.getElem?_cons_succ, List.getElem?_cons_zero]; rfl
      · exact fun _ _ _ h => h
      · first
          | (refine Or.inr ⟨?_, ?_⟩ <;> rfl)
          | (refine Or.inl ⟨?_, ?_⟩; · rfl
             intro w hSw; (try dsimp only at hSw); go_simp; (try with_reducible rfl); done)
      try simp only [Act.put, List.setIfInBounds_toArray, List.set_cons_zero, List.set_cons_succ]
      refine wpAnyH_take (i := 4) (oi := ?_) (v := ?_) ?_ (by kernel_rfl) (by kernel_rfl) (by kernel_rfl) ?_ ?_ (by assumption) ?_
      rotate_left 2
      · simp only [List.getElem?_toArray, List.getElem?_cons_succ, List.getElem?_cons_zero]; rfl
      · exact fun _ _ _ h => h
      · first
          | (refine Or.inr ⟨?_, ?_⟩ <;> rfl)
          | (refine Or.inl ⟨?_, ?_⟩; · rfl
             intro w hSw; (try dsimp only at hSw); go_simp; (try with_reducible rfl); done)
      try simp only [Act.put, List.setIfInBounds_toArray, List.set_cons_zero, List.set_cons_succ]
      refine wpAnyH_take (i := 5) (oi := ?_) (v := ?_) ?_ (by kernel_rfl) (by kernel_rfl) (by kernel_rfl) ?_ ?_ (by assumption) ?_
      rotate_left 2
      · simp only [List.getElem?_toArray, List.getElem?_cons_succ, List.getElem?_cons_zero]; rfl
      · exact fun _ _ _ h => h
      · first
          | (refine Or.inr ⟨?_, ?_⟩ <;> rfl)
          | (refine Or.inl ⟨?_, ?_⟩; · rfl
             intro w hSw; (try dsimp only at hSw); go_simp; (try with_reducible rfl); done)
      try simp only [Act.put, List.setIfInBounds_toArray, List.set_cons_zero, List.set_cons_succ]
      refine wpAnyH_take (i := 9) (oi := ?_) (v := ?_) ?_ (by kernel_rfl) (by kernel_rfl) (by kernel_rfl) ?_ ?_ (by assumption) ?_
      rotate_left 2
      · simp only [List.getElem?_toArray, List.getElem?_cons_succ, List.getElem?_cons_zero]; rfl
      · exact fun _ _ _ h => h
      · first
          | (refine Or.inr ⟨?_, ?_⟩ <;> rfl)
          | (refine Or.inl ⟨?_, ?_⟩; · rfl
             intro w hSw; (try dsimp only at hSw); go_simp; (try with_reducible rfl); done)
      try simp only [Act.put, List.setIfInBounds_toArray, List.set_cons_zero, List.set_cons_succ]
      refine wpAnyH_take (i := 10) (oi := ?_) (v := ?_) ?_ (by kernel_rfl) (by kernel_rfl) (by kernel_rfl) ?_ ?_ (by assumption) ?_
      rotate_left 2
      · simp only [List.getElem?_toArray, List.getElem?_cons_succ, List.getElem?_cons_zero]; rfl
      · exact fun _ _ _ h => h
      · first
          | (refine Or.inr ⟨?_, ?_⟩ <;> rfl)
          | (refine Or.inl ⟨?_, ?_⟩; · rfl
             intro w hSw; (try dsimp only at hSw); go_simp; (try with_reducible rfl); done)
      try simp only [Act.put, List.setIfInBounds_toArray, List.set_cons_zero, List.set_cons_succ]
      refine wpAnyH_take (i := 11) (oi := ?_) (v := ?_) ?_ (by kernel_rfl) (by kernel_rfl) (by kernel_rfl) ?_ ?_ (by assumption) ?_
      rotate_left 2
      · simp only [List.getElem?_toArray, List.getElem?_cons_succ, List.getElem?_cons_zero]; rfl
      · exact fun _ _ _ h => h
      · first
          | (refine Or.inr ⟨?_, ?_⟩ <;> rfl)
          | (refine Or.inl ⟨?_, ?_⟩; · rfl
             intro w hSw; (try dsimp only at hSw); go_simp; (try with_reducible rfl); done)
      try simp only [Act.put, List.setIfInBounds_toArray, List.set_cons_zero, List.set_cons_succ]
      refine wpAnyH_take (i := 12) (oi := ?_) (v := ?_) ?_ (by kernel_rfl) (by kernel_rfl) (by kernel_rfl) ?_ ?_ (by assumption) ?_
      rotate_left 2
      · simp only [List.getElem?_toArray, List.getElem?_cons_succ, List.getElem?_cons_zero]; rfl
      · exact fun _ _ _ h => h
      · first
          | (refine Or.inr ⟨?_, ?_⟩ <;> rfl)
          | (refine Or.inl ⟨?_, ?_⟩; · rfl
             intro w hSw; (try dsimp only at hSw); go_simp; (try with_reducible rfl); done)
      try simp only [Act.put, List.setIfInBounds_toArray, List.set_cons_zero, List.set_cons_succ]
      refine wpAnyH_take (i := 13) (oi := ?_) (v := ?_) ?_ (by kernel_rfl) (by kernel_rfl) (by kernel_rfl) ?_ ?_ (by assumption) ?_
      rotate_left 2
      · simp only [List.getElem?_toArray, List.getElem?_cons_succ, List.getElem?_cons_zero]; rfl
      · exact fun _ _ _ h => h
      · first
          | (refine Or.inr ⟨?_, ?_⟩ <;> rfl)
          | (refine Or.inl ⟨?_, ?_⟩; · rfl
             intro w hSw; (try dsimp only at hSw); go_simp; (try with_reducible rfl); done)
      try simp only [Act.put, List.setIfInBounds_toArray, List.set_cons_zero, List.set_cons_succ]
      refine wpAnyH_ready (rs := [6]) (by kernel_rfl) (by simp) ?_
      refine AllReadyH.cons (o := ?_) ?_ (fun K hK => ?_) AllReadyH.nil
      rotate_left 1
      · simp only [List.getElem?_toArray, List.getElem?_cons_succ, List.getElem?_cons_zero]; rfl
      go_simp
      go_at_call 38
      go_must (refine Calls.mono (HIT.out _) ?_)
      rintro e w' ⟨rfl, rfl⟩
      refine hK.out _ _ ?_ (fun hHeld => ?_)
      · try dsimp only
        exact HCC.out _ HWD.out
      clear hK K
      try simp only [Act.put, List.setIfInBounds_toArray, List.set_cons_zero, List.set_cons_succ]
      refine wpAnyH_take (i := 7) (oi := ?_) (v := ?_) ?_ (by kernel_rfl) (by kernel_rfl) (by kernel_rfl) ?_ ?_ (by assumption) ?_
      rotate_left 2
      · simp only [List.getElem?_toArray, List.getElem?_cons_succ, List.getElem?_cons_zero]; rfl
      · exact fun _ _ _ h => h
      · first
          | (refine Or.inr ⟨?_, ?_⟩ <;> rfl)
          | (refine Or.inl ⟨?_, ?_⟩; · rfl
             intro w hSw; (try dsimp only at hSw); go_simp; (try with_reducible rfl); done)
      try simp only [Act.put, List.setIfInBounds_toArray, List.set_cons_zero, List.set_cons_succ]
      refine wpAnyH_take (i := 8) (oi := ?_) (v := ?_) ?_ (by kernel_rfl) (by kernel_rfl) (by kernel_rfl) ?_ ?_ (by assumption) ?_
      rotate_left 2
      · simp only [List.getElem?_toArray, List.getElem?_cons_succ, List.getElem?_cons_zero]; rfl
      · exact fun _ _ _ h => h
      · first
          | (refine Or.inr ⟨?_, ?_⟩ <;> rfl)
          | (refine Or.inl ⟨?_, ?_⟩; · rfl
             intro w hSw; (try dsimp only at hSw); go_simp; (try with_reducible rfl); done)
      try simp only [Act.put, List.setIfInBounds_toArray, List.set_cons_zero, List.set_cons_succ]
      refine wpAnyH_ready (rs := [14]) (by kernel_rfl) (by simp) ?_
      refine AllReadyH.cons (o := ?_) ?_ (fun K hK => ?_) AllReadyH.nil
      rotate_left 1
      · simp only [List.getElem?_toArray, List.getElem?_cons_succ, List.getElem?_cons_zero]; rfl
      go_simp
      go_at_call 38
      go_must (refine Calls.mono (HIP.out _) ?_)
      rintro e w' ⟨rfl, rfl⟩
      refine hK.out _ _ ?_ (fun hHeld => ?_)
      · try dsimp only
        exact HCC.out _ HWD.out
      clear hK K
      try simp only [Act.put, List.setIfInBounds_toArray, List.set_cons_zero, List.set_cons_succ]
      refine wpAnyH_take (i := 15) (oi := ?_) (v := ?_) ?_ (by kernel_rfl) (by kernel_rfl) (by kernel_rfl) ?_ ?_ (by assumption) ?_
      rotate_left 2
      · simp only [List.getElem?_toArray, List.getElem?_cons_succ, List.getElem?_cons_zero]; rfl
      · exact fun _ _ _ h => h
      · first
          | (refine Or.inr ⟨?_, ?_⟩ <;> rfl)
          | (refine Or.inl ⟨?_, ?_⟩; · rfl
             intro w hSw; (try dsimp only at hSw); go_simp; (try with_reducible rfl); done)
      try simp only [Act.put, List.setIfInBounds_toArray, List.set_cons_zero, List.set_cons_succ]
      refine wpAnyH_take (i := 16) (oi := ?_) (v := ?_) ?_ (by kernel_rfl) (by kernel_rfl) (by kernel_rfl) ?_ ?_ (by assumption) ?_
      rotate_left 2
      · simp only [List.getElem?_toArray, List.getElem?_cons_succ, List.getElem?_cons_zero]; rfl
      · exact fun _ _ _ h => h
      · first
          | (refine Or.inr ⟨?_, ?_⟩ <;> rfl)
          | (refine Or.inl ⟨?_, ?_⟩; · rfl
             intro w hSw; (try dsimp only at hSw); go_simp; (try with_reducible rfl); done)
      try simp only [Act.put, List.setIfInBounds_toArray, List.set_cons_zero, List.set_cons_succ]
      rw [← HET.out]
      have hez : (exT tr pn).size ≤ 100 := by rw [HET.out]; simp only [ByteArray.size_append]; have e1 : (⟨#[116, 114, 97, 105, 110, 115, 32]⟩ : ByteArray).size = 7 := rfl; have e2 : (⟨#[32, 112, 97, 116, 104, 115, 32]⟩ : ByteArray).size = 7 := rfl; have e3 : (⟨#[10]⟩ : ByteArray).size = 1 := rfl; omega
      have HWS := Lib.hid (writeStringF_any (fun q => ¬ own q ∧ q ≠ bl) w.heap.size ob (Lib.byteCells (exO out ((lnT t).length - 1))) (exT tr pn) wr.drew HSB.out (by simp only [Lib.byteCells_length]; omega) HE.out.bd.drew.size)
      clear hs1 hs2 hs3 hs4
      refine wpAnyH_ready (rs := [17]) (by kernel_rfl) (by simp) ?_
      refine AllReadyH.cons (o := ?_) ?_ (fun K hK => ?_) AllReadyH.nil
      rotate_left 1
      · simp only [List.getElem?_toArray, List.getElem?_cons_succ, List.getElem?_cons_zero]; rfl
      go_simp
      go_at_call 36
      go_must (refine Calls.mono HWS.out ?_)
      rintro e w6 ⟨rfl, hsb, hb6, hf6⟩
      have HF6 := Lib.hid (HWD.out.trans (hf6.mono (fun q _ h => h.1)))
      have HS6 := Lib.hid hsb.sb
      have HB6 := Lib.hid (HE.out.bd.drew.trans hb6)
      clear hsb hb6 hf6
      refine hK.out _ _ ?_ (fun hHeld => ?_)
      · try dsimp only
        exact HCC.out _ HF6.out
      clear hK K
      try simp only [Act.put, List.setIfInBounds_toArray, List.set_cons_zero, List.set_cons_succ]
      refine wpAnyH_done (by kernel_rfl) ?_ _
      have hbc : Lib.byteCells (exO out ((lnT t).length - 1)) ++ Lib.strCells (exT tr pn) = Lib.byteCells (exO out ((lnT t).length - 1) ++ (exT tr pn).data.toList) := by rw [Lib.byteCells_append, Lib.strCells_eq]
      rw [hbc] at HS6
      clear hbc
      go_wp2_with fail
      refine (string_any w.heap.size ob _ _ HS6.out HB6.out.size).mono ?_
      rintro e w7 ⟨rfl, hb7⟩
      have HB7 := Lib.hid (HB6.out.trans hb7)
      clear hb7
      go_wp2_with fail
      go_ret
      exact ⟨rfl, HB7.out⟩
end Go.Proofs.YtlkdmpfifpkpaaaGreatDoor
namespace Go.Proofs.YtlkdmpfifpkpaaaGreatDoor
open Go.RowKit

/-- a row of its own, or nil -/
def Rw (z : Nat) (w : World) (v : Value) (n s : Nat) (e : TypeId) (f : Nat → Value) : Prop :=
  (∃ g cap, v = .slice (some ⟨g, 0, none⟩) n cap ∧ z ≤ g ∧ Own w g cap n s e f) ∨ (n = 0 ∧ v = .slice none 0 0)
theorem Rw.shape {z : Nat} {w : World} {v : Value} {n s : Nat} {e : TypeId} {f : Nat → Value} (h : Rw z w v n s e f) : ∃ a c, v = .slice a n c := by
  rcases h with ⟨g, cap, rfl, _⟩ | ⟨rfl, rfl⟩
  · exact ⟨_, _, rfl⟩
  · exact ⟨_, _, rfl⟩
theorem Rw.blk {z : Nat} {w : World} {v : Value} {n s : Nat} {e : TypeId} {f : Nat → Value} (h : Rw z w v n s e f) : ∀ q, v.ownBlock = some q → z ≤ q ∧ q < w.heap.size := fun q hq => by
  rcases h with ⟨g, cap, rfl, hz, ho⟩ | ⟨rfl, rfl⟩
  · have : some g = some q := hq
    cases this
    exact ⟨hz, ho.lt⟩
  · cases hq
theorem Rw.fr {S : Nat → Prop} {z : Nat} {w w' : World} {v : Value} {n s : Nat} {e : TypeId} {f : Nat → Value} (h : Rw z w v n s e f) (hf : Fr S w w') (hb : ∀ q, v.ownBlock = some q → ¬ S q) : Rw z w' v n s e f := by
  rcases h with ⟨g, cap, rfl, hz, ho⟩ | ⟨rfl, rfl⟩
  · exact .inl ⟨g, cap, rfl, hz, ho.fr hf (hb g rfl)⟩
  · exact .inr ⟨rfl, rfl⟩
theorem Rw.congr {z : Nat} {w : World} {v : Value} {n s : Nat} {e : TypeId} {f g : Nat → Value} (h : Rw z w v n s e f) (hfg : ∀ i, i < n * s → f i = g i) : Rw z w v n s e g := by
  rcases h with ⟨b, cap, rfl, hz, ho⟩ | ⟨rfl, rfl⟩
  · exact .inl ⟨b, cap, rfl, hz, Own.congr ho hfg⟩
  · exact .inr ⟨rfl, rfl⟩
end Go.Proofs.YtlkdmpfifpkpaaaGreatDoor
namespace Go.Proofs.YtlkdmpfifpkpaaaGreatDoor
open Go.RowKit

/-- a register in new memory -/
def RgR (z : Nat) (w : World) (v : Value) (ns : List (Int × ByteArray)) : Prop :=
  ∃ r es, v = .pointer (some ⟨r, 0, none⟩) ∧ RgC w r es ns ∧ RgB z r es
theorem RgR.below {z : Nat} {w w' : World} {v : Value} {ns : List (Int × ByteArray)} (h : RgR z w v ns) (hb : Below w.heap.size w w') : RgR z w' v ns := by
  obtain ⟨r, es, e, h1, h2⟩ := h
  exact ⟨r, es, e, h1.below hb (Nat.le_refl _), h2⟩
end Go.Proofs.YtlkdmpfifpkpaaaGreatDoor
namespace Go.Proofs.YtlkdmpfifpkpaaaGreatDoor
open Go.RowKit

def iF (l : List Int) (i : Nat) : Int := (l[i]?).getD 0
theorem RgC.kept {w w' : World} {r g : Nat} {es : List Nat} {ns : List (Int × ByteArray)} (h : RgC w r es ns) (hg : w.grownBy w' (some g)) (h1 : g ≠ r) (h2 : ∀ i, i < es.length → g ≠ es.getD i 0) : RgC w' r es ns :=
  ⟨h.box.kept hg (fun e => h1 e.symm), h.len, fun i hi => (h.ent i hi).kept hg (fun e => h2 i hi e.symm), h.dst, h.inj⟩
end Go.Proofs.YtlkdmpfifpkpaaaGreatDoor
namespace Go.Proofs.YtlkdmpfifpkpaaaGreatDoor
open Go.RowKit

structure Ses where
  x : Ln
  tm : Int
  ms : List (Int × ByteArray)
  ts : List Int
  pa : Option Addr := none
  pn : Nat := 0
  pc : Nat := 0
/-- a session at block s -/
structure SsC (z : Nat) (w : World) (s g1 c1 g2 c2 : Nat) (vm vt : Value) (st : Ses) : Prop where
  box : Bx w s 56 #[.slice (some ⟨g1, 0, none⟩) st.x.n c1, .slice (some ⟨g2, 0, none⟩) st.x.m c2, .slice st.pa st.pn st.pc, .int .i64 st.tm, vm, vt]
  bs : Own w g1 c1 st.x.n 3 76 (bkF st.x.N st.x.I st.x.O)
  tr : Own w g2 c2 st.x.m 1 3 (fun i => .int .i64 (st.x.T i))
  mv : Rw z w vm st.ms.length 2 94 (mvF (mvM st.ms) (mvS st.ms))
  tv : Rw z w vt st.ts.length 1 3 (fun i => .int .i64 (iF st.ts i))
  n12 : g1 ≠ g2
  s1 : s ≠ g1
  s2 : s ≠ g2
  dm : ∀ q, vm.ownBlock = some q → q ≠ s ∧ q ≠ g1 ∧ q ≠ g2 ∧ vt.ownBlock ≠ some q
  dt : ∀ q, vt.ownBlock = some q → q ≠ s ∧ q ≠ g1 ∧ q ≠ g2
  z1 : z ≤ g1
  z2 : z ≤ g2
  zs : z ≤ s
def ownS (s g1 g2 : Nat) (vm vt : Value) (q : Nat) : Prop := q = s ∨ q = g1 ∨ q = g2 ∨ vm.ownBlock = some q ∨ vt.ownBlock = some q
theorem SsC.oz {z : Nat} {w : World} {s g1 c1 g2 c2 : Nat} {vm vt : Value} {st : Ses} (h : SsC z w s g1 c1 g2 c2 vm vt st) : ∀ q, ownS s g1 g2 vm vt q → z ≤ q ∧ q < w.heap.size := fun q hq => by
  rcases hq with rfl | rfl | rfl | hq | hq
  · exact ⟨h.zs, h.box.lt⟩
  · exact ⟨h.z1, h.bs.lt⟩
  · exact ⟨h.z2, h.tr.lt⟩
  · exact h.mv.blk q hq
  · exact h.tv.blk q hq
theorem SsC.fr {S : Nat → Prop} {z : Nat} {w w' : World} {s g1 c1 g2 c2 : Nat} {vm vt : Value} {st : Ses} (h : SsC z w s g1 c1 g2 c2 vm vt st) (hf : Fr S w w') (hd : ∀ q, ownS s g1 g2 vm vt q → ¬ S q) : SsC z w' s g1 c1 g2 c2 vm vt st :=
  ⟨h.box.fr hf (hd s (.inl rfl)), h.bs.fr hf (hd g1 (.inr (.inl rfl))), h.tr.fr hf (hd g2 (.inr (.inr (.inl rfl)))), h.mv.fr hf (fun q hq => hd q (.inr (.inr (.inr (.inl hq))))), h.tv.fr hf (fun q hq => hd q (.inr (.inr (.inr (.inr hq))))), h.n12, h.s1, h.s2, h.dm, h.dt, h.z1, h.z2, h.zs⟩
/-- a session, by its reading -/
def StS (z : Nat) (st : Ses) (own : Nat → Prop) (w : World) (s : Nat) : Prop := ∃ g1 c1 g2 c2 vm vt, SsC z w s g1 c1 g2 c2 vm vt st ∧ ∀ q, own q ↔ ownS s g1 g2 vm vt q
theorem StS.keep {z : Nat} {st : Ses} {own : Nat → Prop} {w w' : World} {s : Nat} (h : StS z st own w s) (hf : Fr (fun q => ¬ own q) w w') : StS z st own w' s := by
  obtain ⟨g1, c1, g2, c2, vm, vt, h1, h2⟩ := h
  exact ⟨g1, c1, g2, c2, vm, vt, h1.fr hf (fun q hq h => h ((h2 q).2 hq)), h2⟩
theorem StS.oz {z : Nat} {st : Ses} {own : Nat → Prop} {w : World} {s : Nat} (h : StS z st own w s) : own s ∧ ∀ q, own q → z ≤ q ∧ q < w.heap.size := by
  obtain ⟨g1, c1, g2, c2, vm, vt, h1, h2⟩ := h
  exact ⟨(h2 s).2 (.inl rfl), fun q hq => h1.oz q ((h2 q).1 hq)⟩
/-- what a line of a script does -/
def Md (z : Nat) (st' : Ses) (o : ByteArray) (s : Nat) (own : Nat → Prop) (w : World) (e : Ending) (w' : World) : Prop :=
  e = .returned (.string o) ∧ ∃ own', StS z st' own' w' s ∧ Fr own w w' ∧ ∀ q, own' q → own q ∨ w.heap.size ≤ q
/-- a line that is a command, on a session -/
theorem line_some (z s k : Nat) (t : ByteArray) (m : Int) (st st' : Ses) (o : ByteArray) (own : Nat → Prop) (w : World) (ht : t.size ≤ 1000) (hm : w.cell? ⟨0, 0, none⟩ = some (.int .i64 m)) (hc : cmdK (wd0 t) (wdL t).length = k) (hk : k < 9) (hS : StS z st own w s)
    (HC : ∀ W bw, StS z st own W s → Below w.heap.size w W → (∀ i, i < (wdL t).length → W.cell? ⟨bw, i, none⟩ = some (.string (wdI t i))) → ¬ own bw → Calls Tryz.prog (cmF k) #[.pointer (some ⟨s, 0, none⟩), .slice (some ⟨bw, 0, none⟩) (wdL t).length (wdL t).length] W (Md z st' o s own W)) :
    Calls Tryz.prog 37 #[.pointer (some ⟨s, 0, none⟩), .string t] w (Md z st' o s own w) := by
  have hoz := hS.oz.2
  refine (answer_some s k t m (fun o' w' => o' = o ∧ ∃ own', StS z st' own' w' s ∧ Fr own w w' ∧ ∀ q, own' q → own q ∨ w.heap.size < q) w ht hm hc hk (fun W bw hW hz hl hw => ?_)).mono ?_
  · have hS2 : StS z st own W s := hS.keep (Fr.of_below hW _)
    refine (HC W bw hS2 hW hw (fun h => by have := (hoz bw h).2; omega)).mono ?_
    rintro e w' ⟨rfl, own', h1, h2, h3⟩
    refine ⟨o, rfl, fun b hb1 hb2 => h2.block b hb2 (fun h => by have := (hoz b h).2; omega), rfl, own', h1, (Fr.of_below hW own).trans h2, fun q hq => ?_⟩
    rcases h3 q hq with h | h
    · exact .inl h
    · right; omega
  · rintro e w' ⟨o', w2, rfl, ⟨rfl, own', h1, h2, h3⟩, hlt, rfl⟩
    have hset := Fr.set w2 ⟨w.heap.size, 0, none⟩ (.string o')
    refine ⟨rfl, own', h1.keep (hset.mono (fun q _ hq ho => ?_)), ⟨h2.os, h2.tape, h2.output, by have := h2.size; simpa using this, fun k hk hs => ?_⟩, fun q hq => ?_⟩
    · have hqe : q = w.heap.size := hq
      rcases h3 q ho with h | h
      · have := (hoz q h).2; omega
      · omega
    · rw [hset.block k (by have := h2.size; omega) (fun e => by have : k = w.heap.size := e; omega)]
      exact h2.block k hk hs
    · rcases h3 q hq with h | h
      · exact .inl h
      · right; omega
end Go.Proofs.YtlkdmpfifpkpaaaGreatDoor
namespace Go.Proofs.YtlkdmpfifpkpaaaGreatDoor
open Go.RowKit

def okT : ByteArray := ⟨#[111, 107]⟩
def noT : ByteArray := ⟨#[110, 111]⟩
end Go.Proofs.YtlkdmpfifpkpaaaGreatDoor
