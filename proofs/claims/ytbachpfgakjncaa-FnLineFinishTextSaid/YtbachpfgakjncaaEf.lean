/-
  Walks of the helpers of the exact laws on lines: marks of lines; boxed lines.
-/
import Derived.Test.YtbachpfgakjncaaEe
namespace Go.Proofs.Ytbachpfgakjncaa
open Go.RowKit

theorem RowB.lt {w : World} {v : Value} {n : Nat} {f : Nat → Value} {g : Option Nat} (h : RowB w v n f g) : ∀ b, g = some b → b < w.heap.size := fun b e => by
  rcases h with ⟨b', c, e1, e2, h⟩ | ⟨e1, _⟩
  · rw [e1] at e; cases e; exact h.lt
  · rw [e1] at e; cases e
theorem RowI.lt {w : World} {v : Value} {n : Nat} {f : Nat → Int} {g : Option Nat} (h : RowI w v n f g) : ∀ b, g = some b → b < w.heap.size := fun b e => by
  rcases h with ⟨b', c, e1, e2, h⟩ | ⟨e1, _⟩
  · rw [e1] at e; cases e; exact h.lt
  · rw [e1] at e; cases e
theorem Bx.grown {w w' : World} {b : Nat} {t : TypeId} {cs : Array Value} {row : Option Nat} (h : Bx w b t cs) (hb : w.grownBy w' row) (hne : row ≠ some b) : Bx w' b t cs :=
  h.of_block (hb.block b h.lt (fun e => hne e.symm))
/-- marks on a line -/
def mkLn (y : Ln) (m : Int) : Ln := { n := y.n, N := mkN m, I := mkI m, O := mkO m, m := y.m, T := fun i => m + 3 * y.n + i }
set_option linter.unusedSimpArgs false in
theorem markLine_any (va vb : Value) (y : Ln) (g1 g2 : Option Nat) (m : Int) (w : World) (hn : y.n ≤ 100000000) (hm : y.m ≤ 100000000) (h0 : 0 ≤ m) (h1 : m ≤ 100000000) (ha : RowB w va y.n (bkF y.N y.I y.O) g1) (hb : RowI w vb y.m y.T g2) (hne : ∀ c, g1 = some c → g2 ≠ some c) :
    Calls Try.prog 22 #[.agg #[va, vb], .int .i64 m] w fun e w' => e = .returned (.int .i64 (m + 3 * y.n + y.m)) ∧ RowB w' va y.n (bkF (mkN m) (mkI m) (mkO m)) g1 ∧ RowI w' vb y.m (fun i => m + 3 * y.n + i) g2 ∧ ∃ wm, w.grownBy wm g1 ∧ wm.grownBy w' g2 := by
  have HA : Hid (∀ a, RowB (w.alloc a) va y.n (bkF y.N y.I y.O) g1) := fun a => ha.below (below_all _ _)
  have HI : Hid (∀ a, RowI (w.alloc a) vb y.m y.T g2) := fun a => hb.below (below_all _ _)
  have HL1 := Lib.hid ha.lt
  have HL2 := Lib.hid hb.lt
  have HN := Lib.hid hne
  clear ha hb hne
  go_enter Try.func22, Try.ntmps22
  go_wp2_with fail
  refine (markB_row va y.n y.N y.I y.O g1 m _ (by omega) h0 (by omega) (HA.out _)).mono ?_
  rintro e w1 ⟨rfl, hr1, hg1⟩
  have HR1 := Lib.hid hr1
  have HG1 := Lib.hid (grownBy_trans (World.grownBy_alloc w _ _) hg1)
  have HX : Hid (Bx w1 w.heap.size 26 #[va, vb]) := (Bx.new w _ _).grown hg1 (fun e => by have := HL1.out _ e; omega)
  have HI1 := Lib.hid ((HI.out _).grown hg1 (fun b e e2 => HN.out b e2 e))
  have hxc := HX.out.cell
  clear hr1 hg1
  go_wp2_with fail
  refine (markI_row vb y.m y.T g2 (m + 3 * y.n) _ (by omega) (by omega) (by omega) HI1.out).mono ?_
  rintro e w2 ⟨rfl, hr2, hg2⟩
  have HR2 := Lib.hid (HR1.out.grown hg2 (fun b e e2 => HN.out b e e2))
  have HR3 := Lib.hid hr2
  have HG2 := Lib.hid hg2
  clear hr2 hg2
  go_wp2_with fail
  go_ret
  exact ⟨rfl, HR2.out, HR3.out, w1, HG1.out, HG2.out⟩
set_option linter.unusedSimpArgs false in
theorem heldLine_marks (va vb : Value) (y : Ln) (g1 g2 : Option Nat) (m : Int) (w : World) (hn : y.n ≤ 100000000) (hm : y.m ≤ 100000000) (h0 : 0 ≤ m) (h1 : m ≤ 100000000) (ha : RowB w va y.n (bkF (mkN m) (mkI m) (mkO m)) g1) (hb : RowI w vb y.m (fun i => m + 3 * y.n + i) g2) :
    Calls Try.prog 38 #[.agg #[va, vb], .int .i64 m] w fun e w' => e = .returned (.int .i64 (m + 3 * y.n + y.m)) ∧ Below w.heap.size w w' := by
  have HA : Hid (∀ a, RowB (w.alloc a) va y.n (bkF (mkN m) (mkI m) (mkO m)) g1) := fun a => ha.below (below_all _ _)
  have HI : Hid (∀ a, RowI (w.alloc a) vb y.m (fun i => m + 3 * y.n + i) g2) := fun a => hb.below (below_all _ _)
  have HBB : Hid (∀ a, Below w.heap.size w (w.alloc a)) := fun a => below_all _ _
  clear ha hb
  go_enter Try.func38, Try.ntmps38
  go_wp2_with fail
  refine (heldB_row va y.n g1 m _ (by omega) h0 (by omega) (HA.out _)).mono ?_
  rintro e w1 ⟨rfl, rfl⟩
  have n1 : ¬ m + 3 * (y.n : Int) < 0 := by omega
  go_wp2_with fail
  refine (heldI_row vb y.m g2 (m + 3 * y.n) _ (by omega) (by omega) (by omega) (HI.out _)).mono ?_
  rintro e w1 ⟨rfl, rfl⟩
  have n2 : ¬ m + 3 * (y.n : Int) + (y.m : Int) < 0 := by omega
  go_wp2_with fail
  go_ret
  exact ⟨rfl, HBB.out _⟩
/-- a line in a box, its rows its own -/
structure LB (w : World) (b : Nat) (va vb : Value) (y : Ln) (g1 g2 : Option Nat) : Prop where
  bx : Bx w b 26 #[va, vb]
  rb : RowB w va y.n (bkF y.N y.I y.O) g1
  ri : RowI w vb y.m y.T g2
  nb1 : ∀ c, g1 = some c → b ≠ c
  nb2 : ∀ c, g2 = some c → b ≠ c
  n12 : ∀ c, g1 = some c → g2 ≠ some c
theorem LB.below {w w' : World} {b : Nat} {va vb : Value} {y : Ln} {g1 g2 : Option Nat} (h : LB w b va vb y g1 g2) (hb : Below w.heap.size w w') : LB w' b va vb y g1 g2 :=
  ⟨h.bx.below hb h.bx.lt, h.rb.below hb, h.ri.below hb, h.nb1, h.nb2, h.n12⟩
theorem LB.grown {w w' : World} {b : Nat} {va vb : Value} {y : Ln} {g1 g2 row : Option Nat} (h : LB w b va vb y g1 g2) (hb : w.grownBy w' row) (hn : ∀ c, row = some c → b ≠ c ∧ g1 ≠ some c ∧ g2 ≠ some c) : LB w' b va vb y g1 g2 :=
  ⟨h.bx.grown hb (fun e => (hn b e).1 rfl), h.rb.grown hb (fun c e e2 => (hn c e2).2.1 e), h.ri.grown hb (fun c e e2 => (hn c e2).2.2 e), h.nb1, h.nb2, h.n12⟩
theorem LB.reads {w : World} {b : Nat} {va vb : Value} {y : Ln} {g1 g2 : Option Nat} (h : LB w b va vb y g1 g2) : LnV w (.agg #[va, vb]) y := ⟨va, vb, rfl, h.rb.reads, h.ri.reads⟩
/-- the blocks of a line lie from z on -/
def Fr2 (z : Nat) (w : World) (g1 g2 : Option Nat) : Prop := (∀ c, g1 = some c → z ≤ c ∧ c < w.heap.size) ∧ (∀ c, g2 = some c → z ≤ c ∧ c < w.heap.size)
/-- what a call hands back as a line -/
def LnN (z : Nat) (w : World) (va vb : Value) (y : Ln) (g1 g2 : Option Nat) : Prop :=
  RowB w va y.n (bkF y.N y.I y.O) g1 ∧ RowI w vb y.m y.T g2 ∧ (∀ c, g1 = some c → g2 ≠ some c) ∧ Fr2 z w g1 g2
theorem LnN.boxed {z : Nat} {w : World} {va vb : Value} {y : Ln} {g1 g2 : Option Nat} (h : LnN z w va vb y g1 g2) : LB (w.alloc (.cells #[va, vb] 26)) w.heap.size va vb y g1 g2 := by
  obtain ⟨h1, h2, h3, h4, h5⟩ := h
  exact ⟨Bx.new _ _ _, h1.below (below_all _ _), h2.below (below_all _ _), fun c e => by have := (h4 c e).2; omega, fun c e => by have := (h5 c e).2; omega, h3⟩
theorem LnN.reads {z : Nat} {w : World} {va vb : Value} {y : Ln} {g1 g2 : Option Nat} (h : LnN z w va vb y g1 g2) : LnV w (.agg #[va, vb]) y := ⟨va, vb, rfl, h.1.reads, h.2.1.reads⟩
theorem LnO.new {z : Nat} {w : World} {v : Value} {y : Ln} (h : LnO z w v y) : ∃ va vb g1 g2, v = .agg #[va, vb] ∧ LnN z w va vb y g1 g2 := by
  obtain ⟨g1, c1, g2, c2, e, h1, h2, h3, h4, h5⟩ := h
  exact ⟨_, _, some g1, some g2, e, .inl ⟨g1, c1, rfl, rfl, h1⟩, .inl ⟨g2, c2, rfl, rfl, h2⟩, fun c e e2 => by cases e; cases e2; exact h3 rfl, fun c e => by cases e; exact ⟨h4, h1.lt⟩, fun c e => by cases e; exact ⟨h5, h2.lt⟩⟩
def zLn : Ln := ⟨0, fun _ => 0, fun _ => false, fun _ => false, 0, fun _ => 0⟩
theorem LrR.get {o : Option Ln} {w w' : World} {e : Ending} (h : LrR o w e w') : Below w.heap.size w w' ∧ ∃ va vb g1 g2, e = .returned (.tuple #[.agg #[va, vb], .bool o.isSome]) ∧ LnN w.heap.size w' va vb (o.getD zLn) g1 g2 := by
  obtain ⟨hb, ⟨rfl, rfl⟩ | ⟨y, v, rfl, rfl, h⟩⟩ := h
  · exact ⟨hb, _, _, none, none, rfl, .inr ⟨rfl, rfl, rfl⟩, .inr ⟨rfl, rfl, rfl⟩, (fun c e => by cases e), (fun c e => by cases e), (fun c e => by cases e)⟩
  · obtain ⟨va, vb, g1, g2, rfl, hn⟩ := h.new
    exact ⟨hb, va, vb, g1, g2, rfl, hn⟩
end Go.Proofs.Ytbachpfgakjncaa
