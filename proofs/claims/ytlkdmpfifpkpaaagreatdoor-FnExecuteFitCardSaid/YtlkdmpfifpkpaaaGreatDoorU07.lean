/-
  Parts of the proof of fnExecuteFit_proved: Mo Ma Lr Sa Sc Sd Se. No condition.
-/
import Derived.Test.YtlkdmpfifpkpaaaGreatDoorChecked
import Derived.Laws.BitsAllLaws
import Derived.Lib.SlBytesRow
import Derived.Deep.RegionWith
import Derived.Shelf.Strings.Builder1
import Derived.Shelf.Strings.Builder2
import Derived.Shelf.Strings.OnBuilder
import Derived.Shelf.Strings.BuilderF
import Derived.Shelf.Strconv.Itoa0
import Derived.Shelf.Strconv.Itoa1
import Derived.Shelf.LaysM
import Derived.Shelf.Strconv.Itoa2
import Derived.Shelf.Strconv.Itoa3
import Derived.Shelf.Strings.Search1
import Derived.Shelf.Strings.Search2
import Derived.Shelf.Strings.Search3
import Derived.Shelf.Strings.Count
import Derived.Shelf.Strings.Shaped
import Derived.Shelf.Strings.Split
import Derived.Shelf.Strings.SplitShaped
import Derived.Shelf.Unicode.DecodeSlow
import Derived.Test.YtlkdmpfifpkpaaaGreatDoorProg
import Derived.Deep.DeepCutAuto
import Derived.Lib.IndexLaws
import Derived.Deep.QuietTactic
import Derived.BigQuiet
import Derived.Lib.Builder
import Derived.Lib.AppendStr
import Derived.Lib.UnsafeStr
import Derived.Lib.Strings
import Derived.Lib.Slices
import Derived.Laws.Externs
import Derived.WalkKit
import Derived.WalkSpells
import Derived.WalkLawsBesides
import Derived.Lib.Hide
import Derived.Deep.RegionHeld3
import Derived.Deep.DeepFit
import Derived.RangeFuncNested
import Derived.RangeFuncBound
import Derived.RangeFuncCalls
import Derived.RangeFuncLeaves
import Derived.RangeFuncBox
import Derived.Shelf.Abstract
import Derived.OwnWalkIn
import Derived.TacticsInMore
import Derived.LoopNIn
import Derived.LoopIn
import Derived.Test.YtlkdmpfifpkpaaaGreatDoorU01
import Derived.Test.YtlkdmpfifpkpaaaGreatDoorU02
import Derived.Test.YtlkdmpfifpkpaaaGreatDoorU03
import Derived.Test.YtlkdmpfifpkpaaaGreatDoorU04
import Derived.Test.YtlkdmpfifpkpaaaGreatDoorU05
import Derived.Test.YtlkdmpfifpkpaaaGreatDoorU06
namespace Go.Proofs.YtlkdmpfifpkpaaaGreatDoor
open Go.RowKit

theorem bkF_upd {N : Nat → Int} {I O : Nat → Bool} {k : Nat} {a : Int} {b c : Bool} (i : Nat) :
    (if i = k * 3 + 2 then Value.bool c else if i = k * 3 + 1 then Value.bool b else if i = k * 3 then Value.int .i64 a else bkF N I O i) = bkF (upd N k a) (upd I k b) (upd O k c) i := by
  unfold bkF upd
  by_cases e2 : i = k * 3 + 2
  · subst e2
    rw [if_pos rfl, if_neg (by omega), if_neg (by omega), if_pos (by omega)]
  rw [if_neg e2]
  by_cases e1 : i = k * 3 + 1
  · subst e1
    rw [if_pos rfl, if_neg (by omega), if_pos (by omega), if_pos (by omega)]
  rw [if_neg e1]
  by_cases e0 : i = k * 3
  · subst e0
    rw [if_pos rfl, if_pos (by omega), if_pos (by omega)]
  rw [if_neg e0]
  have h3 : i % 3 = 0 ∨ i % 3 = 1 ∨ i % 3 = 2 := by omega
  rcases h3 with h | h | h
  · rw [if_pos h, if_pos h, if_neg (by omega)]
  · rw [if_neg (by omega), if_pos h, if_neg (by omega), if_pos h, if_neg (by omega)]
  · rw [if_neg (by omega), if_neg (by omega), if_neg (by omega), if_neg (by omega), if_neg (by omega)]
/-- a block stored into a row of blocks -/
theorem Own.setBk {w : World} {g cap n : Nat} {N : Nat → Int} {I O : Nat → Bool} {t : TypeId} (h : Own w g cap n 3 t (bkF N I O)) (k : Nat) (a : Int) (b c : Bool) :
    Own (((w.setCell ⟨g, k * 3, none⟩ (.int .i64 a)).setCell ⟨g, k * 3 + 1, none⟩ (.bool b)).setCell ⟨g, k * 3 + 2, none⟩ (.bool c)) g cap n 3 t (bkF (upd N k a) (upd I k b) (upd O k c)) :=
  (((h.set (k * 3) _).set (k * 3 + 1) _).set (k * 3 + 2) _).congr fun i _ => bkF_upd i
theorem Own.setInt {w : World} {g cap n : Nat} {T : Nat → Int} {t : TypeId} (h : Own w g cap n 1 t (fun i => .int .i64 (T i))) (k : Nat) (a : Int) :
    Own (w.setCell ⟨g, k, none⟩ (.int .i64 a)) g cap n 1 t (fun i => .int .i64 (upd T k a i)) :=
  (h.set k _).congr fun i _ => by unfold upd; split <;> rfl
theorem RwC.drew {w : World} {r gb cb gt ct : Nat} {x : Ln} (h : RwC w r gb cb gt ct x) : RwC w.drew r gb cb gt ct x := h.below (Below.refl _ w).drew (Nat.le_refl _)
/-- the boxes of a move -/
structure MvM (B : Nat) (w wr : World) (r gb cb gt ct : Nat) (x : Ln) (s : Int) (l : ByteArray) : Prop where
  rw : RwC wr r gb cb gt ct x
  mb : Bx wr w.heap.size 94 #[.int .i64 s, .string l]
  bl : Below B w wr
theorem MvM.below {B D : Nat} {w wr w' : World} {r gb cb gt ct : Nat} {x : Ln} {s : Int} {l : ByteArray} (h : MvM B w wr r gb cb gt ct x s l) (hb : Below D wr w') (hD : D = wr.heap.size) (hB : B ≤ w.heap.size) : MvM B w w' r gb cb gt ct x s l := by
  subst hD
  exact ⟨h.rw.below hb (Nat.le_refl _), h.mb.below hb h.mb.lt, h.bl.trans (hb.mono (Nat.le_trans hB (h.bl.mono (Nat.le_refl _)).size))⟩
theorem MvM.setOther {B : Nat} {w wr : World} {r gb cb gt ct : Nat} {x : Ln} {s : Int} {l : ByteArray} (h : MvM B w wr r gb cb gt ct x s l) {b o : Nat} (hb : wr.heap.size ≤ b ∨ (b ≠ r ∧ b ≠ gb ∧ b ≠ gt ∧ b ≠ w.heap.size)) (hB : B ≤ b) (v : Value) : MvM B w (wr.setCell ⟨b, o, none⟩ v) r gb cb gt ct x s l := by
  have l1 := h.rw.box.lt
  have l2 := h.rw.bs.lt
  have l3 := h.rw.ts.lt
  have l4 := h.mb.lt
  exact ⟨⟨h.rw.box.setOther (by dsimp only; omega) _, h.rw.bs.setOther (by dsimp only; omega) _, h.rw.ts.setOther (by dsimp only; omega) _, h.rw.d1, h.rw.d2, h.rw.d3⟩, h.mb.setOther (by dsimp only; omega) _, h.bl.setCell hB _⟩
theorem bx3 {w : World} {b : Nat} {t : TypeId} {v0 v1 v2 : Value} (h : Bx w b t #[v0, v1, v2]) (u0 u1 u2 : Value) : Bx (((w.setCell ⟨b, 0, none⟩ u0).setCell ⟨b, 1, none⟩ u1).setCell ⟨b, 2, none⟩ u2) b t #[u0, u1, u2] := by
  have := ((h.set 0 u0).set 1 u1).set 2 u2
  simpa using this
theorem MvM.setBk {B : Nat} {w wr : World} {r gb cb gt ct : Nat} {x : Ln} {s : Int} {l : ByteArray} (h : MvM B w wr r gb cb gt ct x s l) (hz : w.heap.size ≠ gb) (hB : B ≤ gb) (k : Nat) (a : Int) (b c : Bool) :
    MvM B w (((wr.setCell ⟨gb, k * 3, none⟩ (.int .i64 a)).setCell ⟨gb, k * 3 + 1, none⟩ (.bool b)).setCell ⟨gb, k * 3 + 2, none⟩ (.bool c)) r gb cb gt ct { x with N := upd x.N k a, I := upd x.I k b, O := upd x.O k c } s l := by
  have d1 := h.rw.d1
  have d2 := h.rw.d2
  exact ⟨⟨((h.rw.box.setOther (by dsimp only; omega) _).setOther (by dsimp only; omega) _).setOther (by dsimp only; omega) _, h.rw.bs.setBk k a b c, ((h.rw.ts.setOther (by dsimp only; omega) _).setOther (by dsimp only; omega) _).setOther (by dsimp only; omega) _, h.rw.d1, h.rw.d2, h.rw.d3⟩,
    ((h.mb.setOther (by dsimp only; omega) _).setOther (by dsimp only; omega) _).setOther (by dsimp only; omega) _, ((h.bl.setCell hB _).setCell hB _).setCell hB _⟩
theorem MvM.setTr {B : Nat} {w wr : World} {r gb cb gt ct : Nat} {x : Ln} {s : Int} {l : ByteArray} (h : MvM B w wr r gb cb gt ct x s l) (hz : w.heap.size ≠ gt) (hB : B ≤ gt) (j : Nat) (a : Int) :
    MvM B w (wr.setCell ⟨gt, j, none⟩ (.int .i64 a)) r gb cb gt ct { x with T := upd x.T j a } s l := by
  have d1 := h.rw.d1
  have d3 := h.rw.d3
  exact ⟨⟨h.rw.box.setOther (by dsimp only; omega) _, h.rw.bs.setOther (by dsimp only; omega) _, h.rw.ts.setInt j a, h.rw.d1, h.rw.d2, h.rw.d3⟩, h.mb.setOther (by dsimp only; omega) _, h.bl.setCell hB _⟩
theorem tl_one {l : ByteArray} {c : UInt8} (h : ¬ l = ⟨#[c]⟩) : (l.toList == [c]) = false := by
  rw [ByteArray.toList_eq]
  simp only [beq_eq_false_iff_ne, ne_eq]
  intro e
  apply h
  cases l with
  | mk d => 
    have : d = #[c] := by
      apply Array.ext'
      simpa using e
    rw [this]
theorem tl_some {l : ByteArray} {c : UInt8} (h : l = ⟨#[c]⟩) : (l.toList == [c]) = true := by
  rw [ByteArray.toList_eq, h]
  simp
/-- behind the step of the block -/
def MvC (B : Nat) (w : World) (z r gb cb gt ct : Nat) (x : Ln) (s : Int) (l : ByteArray) (s5 s6 : Value) (wx : World) : Prop :=
  ∃ b5 a b c, s5 = .pointer (some ⟨b5, 0, none⟩) ∧ s6 = .bool (decide (mvJ x s l < 5)) ∧ MvM B w wx r gb cb gt ct x s l ∧ Bx wx b5 76 #[.int .i64 a, .bool b, .bool c] ∧ z ≤ b5 ∧ bsV (mvJ x s l) = .agg #[.int .i64 a, .bool b, .bool c]
/-- what a move hands back -/
def MvR (B : Nat) (r gb cb gt ct : Nat) (x : Ln) (s : Int) (l : ByteArray) (w : World) (e : Ending) (w' : World) : Prop :=
  e = .returned (.bool (mvOk x s l)) ∧ RwC w' r gb cb gt ct (if mvOk x s l = true then mvTo x s l else x) ∧ Below B w w'
theorem MvR.no {B : Nat} {w wr : World} {r gb cb gt ct : Nat} {x : Ln} {s : Int} {l : ByteArray} (h : RwC wr r gb cb gt ct x) (hb : Below B w wr) (h0 : mvOk x s l = false) : MvR B r gb cb gt ct x s l w (.returned (.bool false)) wr :=
  ⟨by rw [h0], by rw [h0]; exact h, hb⟩
theorem MvR.yes {B : Nat} {w wr : World} {r gb cb gt ct : Nat} {x : Ln} {s : Int} {l : ByteArray} (h : RwC wr r gb cb gt ct (mvTo x s l)) (hb : Below B w wr) (h0 : mvOk x s l = true) : MvR B r gb cb gt ct x s l w (.returned (.bool true)) wr :=
  ⟨by rw [h0], by rw [h0]; exact h, hb⟩
theorem mvOk_out {x : Ln} {s : Int} {l : ByteArray} (h : ¬ (0 ≤ s ∧ s ≤ x.n - 1)) : mvOk x s l = false := by unfold mvOk; rw [inB_false.2 h, Bool.false_and]
theorem mvOk_st {x : Ln} {s : Int} {l : ByteArray} (h : ¬ mvJ x s l < 5) : mvOk x s l = false := by unfold mvOk; rw [decide_eq_false h, Bool.false_and, Bool.and_false]
theorem mvOk_tr {x : Ln} {s : Int} {l : ByteArray} (h1 : (eB l || lB l) = true) (h : ¬ fstA x.T (plI s l) x.m < x.m) : mvOk x s l = false := by unfold mvOk; rw [decide_eq_false h, h1]; simp
theorem mvOk_yes {x : Ln} {s : Int} {l : ByteArray} (h0 : 0 ≤ s ∧ s ≤ x.n - 1) (h1 : mvJ x s l < 5) (h2 : (eB l || lB l) = false ∨ fstA x.T (plI s l) x.m < x.m) : mvOk x s l = true := by
  unfold mvOk
  rw [inB_true.2 h0, decide_eq_true h1]
  rcases h2 with h | h
  · simp [h]
  · simp [h]
set_option linter.unusedSimpArgs false in
set_option maxHeartbeats 4000000 in
theorem move_any (B r gb cb gt ct : Nat) (x : Ln) (s : Int) (l : ByteArray) (w : World) (hn : x.n ≤ 1000000000000) (hm : x.m ≤ 1000000000000) (h : RwC w r gb cb gt ct x) (hB : B ≤ gb ∧ B ≤ gt ∧ B ≤ w.heap.size) :
    Calls Tryz.prog 142 #[.pointer (some ⟨r, 0, none⟩), .agg #[.int .i64 s, .string l]] w (MvR B r gb cb gt ct x s l w) := by
  have hbb : ∀ a, Below w.heap.size w (w.alloc a) := fun a => below_all _ _
  have HM0 : Hid (MvM B w (w.alloc (.cells #[.int .i64 s, .string l] 94)) r gb cb gt ct x s l) := ⟨h.below (hbb _) (Nat.le_refl _), Bx.new _ _ _, (hbb _).mono hB.2.2⟩
  have hrs := h.box.lt
  have hgb := h.bs.lt
  have hgt := h.ts.lt
  clear h hbb
  obtain ⟨hB1, hB2, hB3⟩ := hB
  go_enter Tryz.func142, Tryz.ntmps142
  go_wp2_with fail
  generalize hW0 : w.alloc (.cells #[.int .i64 s, .string l] 94) = W0 at *
  have hz0 : W0.heap.size = w.heap.size + 1 := by rw [← hW0]; simp
  clear hW0
  have hmc := HM0.out.mb.cell
  have hrc := HM0.out.rw.box.cell
  by_cases h0 : s < 0
  · have HV := Lib.hid (mvOk_out (x := x) (s := s) (l := l) (by omega))
    refine wp_region_held_drew (S := (fun w' => w'.cell? ⟨w.heap.size, 0, none⟩ = some (.int .i64 s) ∧ w'.cell? ⟨r, 0, none⟩ = some (.slice (some ⟨gb, 0, none⟩) x.n cb))) (by kernel_rfl) ?_ (fun hHeld => ?_)
    · try dsimp only
      go_keep
    refine wpAnyH_take (i := 0) (oi := ?_) (v := ?_) ?_ (by kernel_rfl) (by kernel_rfl) (by kernel_rfl) ?_ ?_ (by assumption) ?_
    rotate_left 2
    · simp only [List.getElem?_toArray, List.getElem?_cons_succ, List.getElem?_cons_zero]; rfl
    · exact fun _ _ _ h => h
    · first
        | (refine Or.inr ⟨?_, ?_⟩ <;> rfl)
        | (refine Or.inl ⟨?_, ?_⟩; · rfl
           intro w hSw; (try dsimp only at hSw); go_simp; (try with_reducible rfl); done)
    try simp only [Act.put, List.setIfInBounds_toArray, List.set_cons_zero, List.set_cons_succ]
    refine wpAnyH_take (i := 1) (oi := ?_) (v := ?_) ?_ (by kernel_rfl) (by kernel_rfl) (by kernel_rfl) ?_ ?_ (by assumption) ?_
    rotate_left 2
    · simp only [List.getElem?_toArray, List.getElem?_cons_succ, List.getElem?_cons_zero]; rfl
    · exact fun _ _ _ h => h
    · first
        | (refine Or.inr ⟨?_, ?_⟩ <;> rfl)
        | (refine Or.inl ⟨?_, ?_⟩; · rfl
           intro w hSw; (try dsimp only at hSw); go_simp; (try with_reducible rfl); done)
    try simp only [Act.put, List.setIfInBounds_toArray, List.set_cons_zero, List.set_cons_succ]
    refine wpAnyH_take (i := 2) (oi := ?_) (v := ?_) ?_ (by kernel_rfl) (by kernel_rfl) (by kernel_rfl) ?_ ?_ (by assumption) ?_
    rotate_left 2
    · simp only [List.getElem?_toArray, List.getElem?_cons_succ, List.getElem?_cons_zero]; rfl
    · exact fun _ _ _ h => h
    · first
        | (refine Or.inr ⟨?_, ?_⟩ <;> rfl)
        | (refine Or.inl ⟨?_, ?_⟩; · rfl
           intro w hSw; (try dsimp only at hSw); go_simp; (try with_reducible rfl); done)
    try simp only [Act.put, List.setIfInBounds_toArray, List.set_cons_zero, List.set_cons_succ]
    refine wpAnyH_take (i := 3) (oi := ?_) (v := ?_) ?_ (by kernel_rfl) (by kernel_rfl) (by kernel_rfl) ?_ ?_ (by assumption) ?_
    rotate_left 2
    · simp only [List.getElem?_toArray, List.getElem?_cons_succ, List.getElem?_cons_zero]; rfl
    · exact fun _ _ _ h => h
    · first
        | (refine Or.inr ⟨?_, ?_⟩ <;> rfl)
        | (refine Or.inl ⟨?_, ?_⟩; · rfl
           intro w hSw; (try dsimp only at hSw); go_simp; (try with_reducible rfl); done)
    try simp only [Act.put, List.setIfInBounds_toArray, List.set_cons_zero, List.set_cons_succ]
    refine wpAnyH_take (i := 4) (oi := ?_) (v := ?_) ?_ (by kernel_rfl) (by kernel_rfl) (by kernel_rfl) ?_ ?_ (by assumption) ?_
    rotate_left 2
    · simp only [List.getElem?_toArray, List.getElem?_cons_succ, List.getElem?_cons_zero]; rfl
    · exact fun _ _ _ h => h
    · first
        | (refine Or.inr ⟨?_, ?_⟩ <;> rfl)
        | (refine Or.inl ⟨?_, ?_⟩; · rfl
           intro w hSw; (try dsimp only at hSw); go_simp; (try with_reducible rfl); done)
    try simp only [Act.put, List.setIfInBounds_toArray, List.set_cons_zero, List.set_cons_succ]
    refine wpAnyH_take (i := 5) (oi := ?_) (v := ?_) ?_ (by kernel_rfl) (by kernel_rfl) (by kernel_rfl) ?_ ?_ (by assumption) ?_
    rotate_left 2
    · simp only [List.getElem?_toArray, List.getElem?_cons_succ, List.getElem?_cons_zero]; rfl
    · exact fun _ _ _ h => h
    · first
        | (refine Or.inr ⟨?_, ?_⟩ <;> rfl)
        | (refine Or.inl ⟨?_, ?_⟩; · rfl
           intro w hSw; (try dsimp only at hSw); go_simp; (try with_reducible rfl); done)
    try simp only [Act.put, List.setIfInBounds_toArray, List.set_cons_zero, List.set_cons_succ]
    refine wpAnyH_take (i := 6) (oi := ?_) (v := ?_) ?_ (by kernel_rfl) (by kernel_rfl) (by kernel_rfl) ?_ ?_ (by assumption) ?_
    rotate_left 2
    · simp only [List.getElem?_toArray, List.getElem?_cons_succ, List.getElem?_cons_zero]; rfl
    · exact fun _ _ _ h => h
    · first
        | (refine Or.inr ⟨?_, ?_⟩ <;> rfl)
        | (refine Or.inl ⟨?_, ?_⟩; · rfl
           intro w hSw; (try dsimp only at hSw); go_simp; (try with_reducible rfl); done)
    try simp only [Act.put, List.setIfInBounds_toArray, List.set_cons_zero, List.set_cons_succ]
    refine wpAnyH_take (i := 7) (oi := ?_) (v := ?_) ?_ (by kernel_rfl) (by kernel_rfl) (by kernel_rfl) ?_ ?_ (by assumption) ?_
    rotate_left 2
    · simp only [List.getElem?_toArray, List.getElem?_cons_succ, List.getElem?_cons_zero]; rfl
    · exact fun _ _ _ h => h
    · first
        | (refine Or.inr ⟨?_, ?_⟩ <;> rfl)
        | (refine Or.inl ⟨?_, ?_⟩; · rfl
           intro w hSw; (try dsimp only at hSw); go_simp; (try with_reducible rfl); done)
    try simp only [Act.put, List.setIfInBounds_toArray, List.set_cons_zero, List.set_cons_succ]
    refine wpAnyH_take (i := 8) (oi := ?_) (v := ?_) ?_ (by kernel_rfl) (by kernel_rfl) (by kernel_rfl) ?_ ?_ (by assumption) ?_
    rotate_left 2
    · simp only [List.getElem?_toArray, List.getElem?_cons_succ, List.getElem?_cons_zero]; rfl
    · exact fun _ _ _ h => h
    · first
        | (refine Or.inr ⟨?_, ?_⟩ <;> rfl)
        | (refine Or.inl ⟨?_, ?_⟩; · rfl
           intro w hSw; (try dsimp only at hSw); go_simp; (try with_reducible rfl); done)
    try simp only [Act.put, List.setIfInBounds_toArray, List.set_cons_zero, List.set_cons_succ]
    refine wpAnyH_take (i := 9) (oi := ?_) (v := ?_) ?_ (by kernel_rfl) (by kernel_rfl) (by kernel_rfl) ?_ ?_ (by assumption) ?_
    rotate_left 2
    · simp only [List.getElem?_toArray, List.getElem?_cons_succ, List.getElem?_cons_zero]; rfl
    · exact fun _ _ _ h => h
    · first
        | (refine Or.inr ⟨?_, ?_⟩ <;> rfl)
        | (refine Or.inl ⟨?_, ?_⟩; · rfl
           intro w hSw; (try dsimp only at hSw); go_simp; (try with_reducible rfl); done)
    try simp only [Act.put, List.setIfInBounds_toArray, List.set_cons_zero, List.set_cons_succ]
    refine wpAnyH_take (i := 10) (oi := ?_) (v := ?_) ?_ (by kernel_rfl) (by kernel_rfl) (by kernel_rfl) ?_ ?_ (by assumption) ?_
    rotate_left 2
    · simp only [List.getElem?_toArray, List.getElem?_cons_succ, List.getElem?_cons_zero]; rfl
    · exact fun _ _ _ h => h
    · first
        | (refine Or.inr ⟨?_, ?_⟩ <;> rfl)
        | (refine Or.inl ⟨?_, ?_⟩; · rfl
           intro w hSw; (try dsimp only at hSw); go_simp; (try with_reducible rfl); done)
    try simp only [Act.put, List.setIfInBounds_toArray, List.set_cons_zero, List.set_cons_succ]
    refine wpAnyH_take (i := 11) (oi := ?_) (v := ?_) ?_ (by kernel_rfl) (by kernel_rfl) (by kernel_rfl) ?_ ?_ (by assumption) ?_
    rotate_left 2
    · simp only [List.getElem?_toArray, List.getElem?_cons_succ, List.getElem?_cons_zero]; rfl
    · exact fun _ _ _ h => h
    · first
        | (refine Or.inr ⟨?_, ?_⟩ <;> rfl)
        | (refine Or.inl ⟨?_, ?_⟩; · rfl
           intro w hSw; (try dsimp only at hSw); go_simp; (try with_reducible rfl); done)
    try simp only [Act.put, List.setIfInBounds_toArray, List.set_cons_zero, List.set_cons_succ]
    refine wpAnyH_take (i := 12) (oi := ?_) (v := ?_) ?_ (by kernel_rfl) (by kernel_rfl) (by kernel_rfl) ?_ ?_ (by assumption) ?_
    rotate_left 2
    · simp only [List.getElem?_toArray, List.getElem?_cons_succ, List.getElem?_cons_zero]; rfl
    · exact fun _ _ _ h => h
    · first
        | (refine Or.inr ⟨?_, ?_⟩ <;> rfl)
        | (refine Or.inl ⟨?_, ?_⟩; · rfl
           intro w hSw; (try dsimp only at hSw); go_simp; (try with_reducible rfl); done)
    try simp only [Act.put, List.setIfInBounds_toArray, List.set_cons_zero, List.set_cons_succ]
    refine wpAnyH_done (by kernel_rfl) ?_ _
    go_wp2_with fail
    go_ret
    exact MvR.no HM0.out.rw.drew HM0.out.bl.drew HV.out
  by_cases h1 : (x.n : Int) ≤ s
  · have HV := Lib.hid (mvOk_out (x := x) (s := s) (l := l) (by omega))
    refine wp_region_held_drew (S := (fun w' => w'.cell? ⟨w.heap.size, 0, none⟩ = some (.int .i64 s) ∧ w'.cell? ⟨r, 0, none⟩ = some (.slice (some ⟨gb, 0, none⟩) x.n cb))) (by kernel_rfl) ?_ (fun hHeld => ?_)
    · try dsimp only
      go_keep
    refine wpAnyH_take (i := 0) (oi := ?_) (v := ?_) ?_ (by kernel_rfl) (by kernel_rfl) (by kernel_rfl) ?_ ?_ (by assumption) ?_
    rotate_left 2
    · simp only [List.getElem?_toArray, List.getElem?_cons_succ, List.getElem?_cons_zero]; rfl
    · exact fun _ _ _ h => h
    · first
        | (refine Or.inr ⟨?_, ?_⟩ <;> rfl)
        | (refine Or.inl ⟨?_, ?_⟩; · rfl
           intro w hSw; (try dsimp only at hSw); go_simp; (try with_reducible rfl); done)
    try simp only [Act.put, List.setIfInBounds_toArray, List.set_cons_zero, List.set_cons_succ]
    refine wpAnyH_take (i := 1) (oi := ?_) (v := ?_) ?_ (by kernel_rfl) (by kernel_rfl) (by kernel_rfl) ?_ ?_ (by assumption) ?_
    rotate_left 2
    · simp only [List.getElem?_toArray, List.getElem?_cons_succ, List.getElem?_cons_zero]; rfl
    · exact fun _ _ _ h => h
    · first
        | (refine Or.inr ⟨?_, ?_⟩ <;> rfl)
        | (refine Or.inl ⟨?_, ?_⟩; · rfl
           intro w hSw; (try dsimp only at hSw); go_simp; (try with_reducible rfl); done)
    try simp only [Act.put, List.setIfInBounds_toArray, List.set_cons_zero, List.set_cons_succ]
    refine wpAnyH_take (i := 2) (oi := ?_) (v := ?_) ?_ (by kernel_rfl) (by kernel_rfl) (by kernel_rfl) ?_ ?_ (by assumption) ?_
    rotate_left 2
    · simp only [List.getElem?_toArray, List.getElem?_cons_succ, List.getElem?_cons_zero]; rfl
    · exact fun _ _ _ h => h
    · first
        | (refine Or.inr ⟨?_, ?_⟩ <;> rfl)
        | (refine Or.inl ⟨?_, ?_⟩; · rfl
           intro w hSw; (try dsimp only at hSw); go_simp; (try with_reducible rfl); done)
    try simp only [Act.put, List.setIfInBounds_toArray, List.set_cons_zero, List.set_cons_succ]
    refine wpAnyH_take (i := 3) (oi := ?_) (v := ?_) ?_ (by kernel_rfl) (by kernel_rfl) (by kernel_rfl) ?_ ?_ (by assumption) ?_
    rotate_left 2
    · simp only [List.getElem?_toArray, List.getElem?_cons_succ, List.getElem?_cons_zero]; rfl
    · exact fun _ _ _ h => h
    · first
        | (refine Or.inr ⟨?_, ?_⟩ <;> rfl)
        | (refine Or.inl ⟨?_, ?_⟩; · rfl
           intro w hSw; (try dsimp only at hSw); go_simp; (try with_reducible rfl); done)
    try simp only [Act.put, List.setIfInBounds_toArray, List.set_cons_zero, List.set_cons_succ]
    refine wpAnyH_take (i := 4) (oi := ?_) (v := ?_) ?_ (by kernel_rfl) (by kernel_rfl) (by kernel_rfl) ?_ ?_ (by assumption) ?_
    rotate_left 2
    · simp only [List.getElem?_toArray, List.getElem?_cons_succ, List.getElem?_cons_zero]; rfl
    · exact fun _ _ _ h => h
    · first
        | (refine Or.inr ⟨?_, ?_⟩ <;> rfl)
        | (refine Or.inl ⟨?_, ?_⟩; · rfl
           intro w hSw; (try dsimp only at hSw); go_simp; (try with_reducible rfl); done)
    try simp only [Act.put, List.setIfInBounds_toArray, List.set_cons_zero, List.set_cons_succ]
    refine wpAnyH_take (i := 5) (oi := ?_) (v := ?_) ?_ (by kernel_rfl) (by kernel_rfl) (by kernel_rfl) ?_ ?_ (by assumption) ?_
    rotate_left 2
    · simp only [List.getElem?_toArray, List.getElem?_cons_succ, List.getElem?_cons_zero]; rfl
    · exact fun _ _ _ h => h
    · first
        | (refine Or.inr ⟨?_, ?_⟩ <;> rfl)
        | (refine Or.inl ⟨?_, ?_⟩; · rfl
           intro w hSw; (try dsimp only at hSw); go_simp; (try with_reducible rfl); done)
    try simp only [Act.put, List.setIfInBounds_toArray, List.set_cons_zero, List.set_cons_succ]
    refine wpAnyH_take (i := 6) (oi := ?_) (v := ?_) ?_ (by kernel_rfl) (by kernel_rfl) (by kernel_rfl) ?_ ?_ (by assumption) ?_
    rotate_left 2
    · simp only [List.getElem?_toArray, List.getElem?_cons_succ, List.getElem?_cons_zero]; rfl
    · exact fun _ _ _ h => h
    · first
        | (refine Or.inr ⟨?_, ?_⟩ <;> rfl)
        | (refine Or.inl ⟨?_, ?_⟩; · rfl
           intro w hSw; (try dsimp only at hSw); go_simp; (try with_reducible rfl); done)
    try simp only [Act.put, List.setIfInBounds_toArray, List.set_cons_zero, List.set_cons_succ]
    refine wpAnyH_take (i := 7) (oi := ?_) (v := ?_) ?_ (by kernel_rfl) (by kernel_rfl) (by kernel_rfl) ?_ ?_ (by assumption) ?_
    rotate_left 2
    · simp only [List.getElem?_toArray, List.getElem?_cons_succ, List.getElem?_cons_zero]; rfl
    · exact fun _ _ _ h => h
    · first
        | (refine Or.inr ⟨?_, ?_⟩ <;> rfl)
        | (refine Or.inl ⟨?_, ?_⟩; · rfl
           intro w hSw; (try dsimp only at hSw); go_simp; (try with_reducible rfl); done)
    try simp only [Act.put, List.setIfInBounds_toArray, List.set_cons_zero, List.set_cons_succ]
    refine wpAnyH_take (i := 8) (oi := ?_) (v := ?_) ?_ (by kernel_rfl) (by kernel_rfl) (by kernel_rfl) ?_ ?_ (by assumption) ?_
    rotate_left 2
    · simp only [List.getElem?_toArray, List.getElem?_cons_succ, List.getElem?_cons_zero]; rfl
    · exact fun _ _ _ h => h
    · first
        | (refine Or.inr ⟨?_, ?_⟩ <;> rfl)
        | (refine Or.inl ⟨?_, ?_⟩; · rfl
           intro w hSw; (try dsimp only at hSw); go_simp; (try with_reducible rfl); done)
    try simp only [Act.put, List.setIfInBounds_toArray, List.set_cons_zero, List.set_cons_succ]
    refine wpAnyH_take (i := 9) (oi := ?_) (v := ?_) ?_ (by kernel_rfl) (by kernel_rfl) (by kernel_rfl) ?_ ?_ (by assumption) ?_
    rotate_left 2
    · simp only [List.getElem?_toArray, List.getElem?_cons_succ, List.getElem?_cons_zero]; rfl
    · exact fun _ _ _ h => h
    · first
        | (refine Or.inr ⟨?_, ?_⟩ <;> rfl)
        | (refine Or.inl ⟨?_, ?_⟩; · rfl
           intro w hSw; (try dsimp only at hSw); go_simp; (try with_reducible rfl); done)
    try simp only [Act.put, List.setIfInBounds_toArray, List.set_cons_zero, List.set_cons_succ]
    refine wpAnyH_take (i := 10) (oi := ?_) (v := ?_) ?_ (by kernel_rfl) (by kernel_rfl) (by kernel_rfl) ?_ ?_ (by assumption) ?_
    rotate_left 2
    · simp only [List.getElem?_toArray, List.getElem?_cons_succ, List.getElem?_cons_zero]; rfl
    · exact fun _ _ _ h => h
    · first
        | (refine Or.inr ⟨?_, ?_⟩ <;> rfl)
        | (refine Or.inl ⟨?_, ?_⟩; · rfl
           intro w hSw; (try dsimp only at hSw); go_simp; (try with_reducible rfl); done)
    try simp only [Act.put, List.setIfInBounds_toArray, List.set_cons_zero, List.set_cons_succ]
    refine wpAnyH_take (i := 11) (oi := ?_) (v := ?_) ?_ (by kernel_rfl) (by kernel_rfl) (by kernel_rfl) ?_ ?_ (by assumption) ?_
    rotate_left 2
    · simp only [List.getElem?_toArray, List.getElem?_cons_succ, List.getElem?_cons_zero]; rfl
    · exact fun _ _ _ h => h
    · first
        | (refine Or.inr ⟨?_, ?_⟩ <;> rfl)
        | (refine Or.inl ⟨?_, ?_⟩; · rfl
           intro w hSw; (try dsimp only at hSw); go_simp; (try with_reducible rfl); done)
    try simp only [Act.put, List.setIfInBounds_toArray, List.set_cons_zero, List.set_cons_succ]
    refine wpAnyH_take (i := 12) (oi := ?_) (v := ?_) ?_ (by kernel_rfl) (by kernel_rfl) (by kernel_rfl) ?_ ?_ (by assumption) ?_
    rotate_left 2
    · simp only [List.getElem?_toArray, List.getElem?_cons_succ, List.getElem?_cons_zero]; rfl
    · exact fun _ _ _ h => h
    · first
        | (refine Or.inr ⟨?_, ?_⟩ <;> rfl)
        | (refine Or.inl ⟨?_, ?_⟩; · rfl
           intro w hSw; (try dsimp only at hSw); go_simp; (try with_reducible rfl); done)
    try simp only [Act.put, List.setIfInBounds_toArray, List.set_cons_zero, List.set_cons_succ]
    refine wpAnyH_done (by kernel_rfl) ?_ _
    go_wp2_with fail
    go_ret
    exact MvR.no HM0.out.rw.drew HM0.out.bl.drew HV.out
  obtain ⟨k, rfl⟩ := Int.eq_ofNat_of_zero_le (show 0 ≤ s by omega)
  have hk : k < x.n := by omega
  have hr0 : r ≠ w.heap.size := by omega
  have hkl : (0 : Int) ≤ (k : Int) ∧ (k : Int) ≤ x.n - 1 := by omega
  have HKL := Lib.hid hkl
  have HJ : Hid (mvJ x (k : Int) l = bsI (x.N k) (x.I k) (x.O k) l) := rfl
  clear hkl
  refine wp_region_held_drew (S := (fun w' => w'.cell? ⟨w.heap.size, 0, none⟩ = some (.int .i64 (k : Int)) ∧ w'.cell? ⟨r, 0, none⟩ = some (.slice (some ⟨gb, 0, none⟩) x.n cb))) (by kernel_rfl) ?_ (fun hHeld => ?_)
  · try dsimp only
    go_keep
  refine wpAnyH_take (i := 0) (oi := ?_) (v := ?_) ?_ (by kernel_rfl) (by kernel_rfl) (by kernel_rfl) ?_ ?_ (by assumption) ?_
  rotate_left 2
  · simp only [List.getElem?_toArray, List.getElem?_cons_succ, List.getElem?_cons_zero]; rfl
  · exact fun _ _ _ h => h
  · first
      | (refine Or.inr ⟨?_, ?_⟩ <;> rfl)
      | (refine Or.inl ⟨?_, ?_⟩; · rfl
         intro w hSw; (try dsimp only at hSw); go_simp; (try with_reducible rfl); done)
  try simp only [Act.put, List.setIfInBounds_toArray, List.set_cons_zero, List.set_cons_succ]
  refine wpAnyH_take (i := 1) (oi := ?_) (v := ?_) ?_ (by kernel_rfl) (by kernel_rfl) (by kernel_rfl) ?_ ?_ (by assumption) ?_
  rotate_left 2
  · simp only [List.getElem?_toArray, List.getElem?_cons_succ, List.getElem?_cons_zero]; rfl
  · exact fun _ _ _ h => h
  · first
      | (refine Or.inr ⟨?_, ?_⟩ <;> rfl)
      | (refine Or.inl ⟨?_, ?_⟩; · rfl
         intro w hSw; (try dsimp only at hSw); go_simp; (try with_reducible rfl); done)
  try simp only [Act.put, List.setIfInBounds_toArray, List.set_cons_zero, List.set_cons_succ]
  refine wpAnyH_take (i := 2) (oi := ?_) (v := ?_) ?_ (by kernel_rfl) (by kernel_rfl) (by kernel_rfl) ?_ ?_ (by assumption) ?_
  rotate_left 2
  · simp only [List.getElem?_toArray, List.getElem?_cons_succ, List.getElem?_cons_zero]; rfl
  · exact fun _ _ _ h => h
  · first
      | (refine Or.inr ⟨?_, ?_⟩ <;> rfl)
      | (refine Or.inl ⟨?_, ?_⟩; · rfl
         intro w hSw; (try dsimp only at hSw); go_simp; (try with_reducible rfl); done)
  try simp only [Act.put, List.setIfInBounds_toArray, List.set_cons_zero, List.set_cons_succ]
  refine wpAnyH_take (i := 3) (oi := ?_) (v := ?_) ?_ (by kernel_rfl) (by kernel_rfl) (by kernel_rfl) ?_ ?_ (by assumption) ?_
  rotate_left 2
  · simp only [List.getElem?_toArray, List.getElem?_cons_succ, List.getElem?_cons_zero]; rfl
  · exact fun _ _ _ h => h
  · first
      | (refine Or.inr ⟨?_, ?_⟩ <;> rfl)
      | (refine Or.inl ⟨?_, ?_⟩; · rfl
         intro w hSw; (try dsimp only at hSw); go_simp; (try with_reducible rfl); done)
  try simp only [Act.put, List.setIfInBounds_toArray, List.set_cons_zero, List.set_cons_succ]
  refine wpAnyH_take (i := 4) (oi := ?_) (v := ?_) ?_ (by kernel_rfl) (by kernel_rfl) (by kernel_rfl) ?_ ?_ (by assumption) ?_
  rotate_left 2
  · simp only [List.getElem?_toArray, List.getElem?_cons_succ, List.getElem?_cons_zero]; rfl
  · exact fun _ _ _ h => h
  · first
      | (refine Or.inr ⟨?_, ?_⟩ <;> rfl)
      | (refine Or.inl ⟨?_, ?_⟩; · rfl
         intro w hSw; (try dsimp only at hSw); go_simp; (try with_reducible rfl); done)
  try simp only [Act.put, List.setIfInBounds_toArray, List.set_cons_zero, List.set_cons_succ]
  refine wpAnyH_take (i := 5) (oi := ?_) (v := ?_) ?_ (by kernel_rfl) (by kernel_rfl) (by kernel_rfl) ?_ ?_ (by assumption) ?_
  rotate_left 2
  · simp only [List.getElem?_toArray, List.getElem?_cons_succ, List.getElem?_cons_zero]; rfl
  · exact fun _ _ _ h => h
  · first
      | (refine Or.inr ⟨?_, ?_⟩ <;> rfl)
      | (refine Or.inl ⟨?_, ?_⟩; · rfl
         intro w hSw; (try dsimp only at hSw); go_simp; (try with_reducible rfl); done)
  try simp only [Act.put, List.setIfInBounds_toArray, List.set_cons_zero, List.set_cons_succ]
  refine wpAnyH_take (i := 6) (oi := ?_) (v := ?_) ?_ (by kernel_rfl) (by kernel_rfl) (by kernel_rfl) ?_ ?_ (by assumption) ?_
  rotate_left 2
  · simp only [List.getElem?_toArray, List.getElem?_cons_succ, List.getElem?_cons_zero]; rfl
  · exact fun _ _ _ h => h
  · first
      | (refine Or.inr ⟨?_, ?_⟩ <;> rfl)
      | (refine Or.inl ⟨?_, ?_⟩; · rfl
         intro w hSw; (try dsimp only at hSw); go_simp; (try with_reducible rfl); done)
  try simp only [Act.put, List.setIfInBounds_toArray, List.set_cons_zero, List.set_cons_succ]
  refine wpAnyH_take (i := 7) (oi := ?_) (v := ?_) ?_ (by kernel_rfl) (by kernel_rfl) (by kernel_rfl) ?_ ?_ (by assumption) ?_
  rotate_left 2
  · simp only [List.getElem?_toArray, List.getElem?_cons_succ, List.getElem?_cons_zero]; rfl
  · exact fun _ _ _ h => h
  · first
      | (refine Or.inr ⟨?_, ?_⟩ <;> rfl)
      | (refine Or.inl ⟨?_, ?_⟩; · rfl
         intro w hSw; (try dsimp only at hSw); go_simp; (try with_reducible rfl); done)
  try simp only [Act.put, List.setIfInBounds_toArray, List.set_cons_zero, List.set_cons_succ]
  refine wpAnyH_take (i := 8) (oi := ?_) (v := ?_) ?_ (by kernel_rfl) (by kernel_rfl) (by kernel_rfl) ?_ ?_ (by assumption) ?_
  rotate_left 2
  · simp only [List.getElem?_toArray, List.getElem?_cons_succ, List.getElem?_cons_zero]; rfl
  · exact fun _ _ _ h => h
  · first
      | (refine Or.inr ⟨?_, ?_⟩ <;> rfl)
      | (refine Or.inl ⟨?_, ?_⟩; · rfl
         intro w hSw; (try dsimp only at hSw); go_simp; (try with_reducible rfl); done)
  try simp only [Act.put, List.setIfInBounds_toArray, List.set_cons_zero, List.set_cons_succ]
  refine wpAnyH_take (i := 9) (oi := ?_) (v := ?_) ?_ (by kernel_rfl) (by kernel_rfl) (by kernel_rfl) ?_ ?_ (by assumption) ?_
  rotate_left 2
  · simp only [List.getElem?_toArray, List.getElem?_cons_succ, List.getElem?_cons_zero]; rfl
  · exact fun _ _ _ h => h
  · first
      | (refine Or.inr ⟨?_, ?_⟩ <;> rfl)
      | (refine Or.inl ⟨?_, ?_⟩; · rfl
         intro w hSw; (try dsimp only at hSw); go_simp; (try with_reducible rfl); done)
  try simp only [Act.put, List.setIfInBounds_toArray, List.set_cons_zero, List.set_cons_succ]
  refine wpAnyH_take (i := 10) (oi := ?_) (v := ?_) ?_ (by kernel_rfl) (by kernel_rfl) (by kernel_rfl) ?_ ?_ (by assumption) ?_
  rotate_left 2
  · simp only [List.getElem?_toArray, List.getElem?_cons_succ, List.getElem?_cons_zero]; rfl
  · exact fun _ _ _ h => h
  · first
      | (refine Or.inr ⟨?_, ?_⟩ <;> rfl)
      | (refine Or.inl ⟨?_, ?_⟩; · rfl
         intro w hSw; (try dsimp only at hSw); go_simp; (try with_reducible rfl); done)
  try simp only [Act.put, List.setIfInBounds_toArray, List.set_cons_zero, List.set_cons_succ]
  refine wpAnyH_take (i := 11) (oi := ?_) (v := ?_) ?_ (by kernel_rfl) (by kernel_rfl) (by kernel_rfl) ?_ ?_ (by assumption) ?_
  rotate_left 2
  · simp only [List.getElem?_toArray, List.getElem?_cons_succ, List.getElem?_cons_zero]; rfl
  · exact fun _ _ _ h => h
  · first
      | (refine Or.inr ⟨?_, ?_⟩ <;> rfl)
      | (refine Or.inl ⟨?_, ?_⟩; · rfl
         intro w hSw; (try dsimp only at hSw); go_simp; (try with_reducible rfl); done)
  try simp only [Act.put, List.setIfInBounds_toArray, List.set_cons_zero, List.set_cons_succ]
  refine wpAnyH_take (i := 12) (oi := ?_) (v := ?_) ?_ (by kernel_rfl) (by kernel_rfl) (by kernel_rfl) ?_ ?_ (by assumption) ?_
  rotate_left 2
  · simp only [List.getElem?_toArray, List.getElem?_cons_succ, List.getElem?_cons_zero]; rfl
  · exact fun _ _ _ h => h
  · first
      | (refine Or.inr ⟨?_, ?_⟩ <;> rfl)
      | (refine Or.inl ⟨?_, ?_⟩; · rfl
         intro w hSw; (try dsimp only at hSw); go_simp; (try with_reducible rfl); done)
  try simp only [Act.put, List.setIfInBounds_toArray, List.set_cons_zero, List.set_cons_succ]
  refine wpAnyH_done (by kernel_rfl) ?_ _
  go_wp2_with fail
  have HMd := Lib.hid (HM0.out.below (Below.refl _ W0).drew rfl hB3)
  have hzd : W0.drew.heap.size = w.heap.size + 1 := hz0
  clear hmc hrc HM0 hz0
  generalize W0.drew = W1 at *
  have HM0 := HMd
  clear HMd
  have hmc := HM0.out.mb.cell
  have hrc := HM0.out.rw.box.cell
  have hbc := HM0.out.rw.bl hk
  have hbv : ∃ a b c, bsV (mvJ x (k : Int) l) = .agg #[.int .i64 a, .bool b, .bool c] := by
    unfold bsV
    split
    · exact ⟨_, _, _, rfl⟩
    · exact ⟨_, _, _, rfl⟩
  obtain ⟨ba, bb, bc, hbv⟩ := hbv
  have HBV := Lib.hid hbv
  clear hbv
  have hrz : r < W1.heap.size ∧ gb < W1.heap.size ∧ gt < W1.heap.size ∧ w.heap.size < W1.heap.size := ⟨HM0.out.rw.box.lt, HM0.out.rw.bs.lt, HM0.out.rw.ts.lt, by omega⟩
  obtain ⟨z1, z2, z3, z4⟩ := hrz
  clear hzd
  have HST : Hid (∀ W, Calls Tryz.prog 161 #[.agg #[.int .i64 (x.N k), .bool (x.I k), .bool (x.O k)], .string l] W fun e w' => e = .returned (.tuple #[.agg #[.int .i64 ba, .bool bb, .bool bc], .bool (decide (mvJ x (k : Int) l < 5))]) ∧ Below W.heap.size W w') := fun W => by
    refine (implStep_any (x.N k) (x.I k) (x.O k) l W).mono fun e w' h => ?_
    obtain ⟨h1, h2⟩ := h
    rw [← HJ.out, HBV.out] at h1
    exact ⟨h1, h2⟩
  go_cut [5, 6] (MvC B w W1.heap.size r gb cb gt ct x (k : Int) l)
  case first =>
    refine wp_region_held_drew (S := (fun w' => w'.cell? ⟨w.heap.size, 0, none⟩ = some (.int .i64 (k : Int)) ∧ w'.cell? ⟨w.heap.size, 1, none⟩ = some (.string l) ∧ w'.cell? ⟨r, 0, none⟩ = some (.slice (some ⟨gb, 0, none⟩) x.n cb) ∧ w'.cell? ⟨gb, k * 3, none⟩ = some (.int .i64 (x.N k)) ∧ w'.cell? ⟨gb, k * 3 + 1, none⟩ = some (.bool (x.I k)) ∧ w'.cell? ⟨gb, k * 3 + 2, none⟩ = some (.bool (x.O k)))) (by kernel_rfl) ?_ (fun hHeld => ?_)
    · try dsimp only
      go_keep
    refine wpAnyH_take (i := 0) (oi := ?_) (v := ?_) ?_ (by kernel_rfl) (by kernel_rfl) (by kernel_rfl) ?_ ?_ (by assumption) ?_
    rotate_left 2
    · simp only [List.getElem?_toArray, List.getElem?_cons_succ, List.getElem?_cons_zero]; rfl
    · exact fun _ _ _ h => h
    · first
        | (refine Or.inr ⟨?_, ?_⟩ <;> rfl)
        | (refine Or.inl ⟨?_, ?_⟩; · rfl
           intro w hSw; (try dsimp only at hSw); go_simp; (try with_reducible rfl); done)
    try simp only [Act.put, List.setIfInBounds_toArray, List.set_cons_zero, List.set_cons_succ]
    refine wpAnyH_take (i := 1) (oi := ?_) (v := ?_) ?_ (by kernel_rfl) (by kernel_rfl) (by kernel_rfl) ?_ ?_ (by assumption) ?_
    rotate_left 2
    · simp only [List.getElem?_toArray, List.getElem?_cons_succ, List.getElem?_cons_zero]; rfl
    · exact fun _ _ _ h => h
    · first
        | (refine Or.inr ⟨?_, ?_⟩ <;> rfl)
        | (refine Or.inl ⟨?_, ?_⟩; · rfl
           intro w hSw; (try dsimp only at hSw); go_simp; (try with_reducible rfl); done)
    try simp only [Act.put, List.setIfInBounds_toArray, List.set_cons_zero, List.set_cons_succ]
    refine wpAnyH_take (i := 2) (oi := ?_) (v := ?_) ?_ (by kernel_rfl) (by kernel_rfl) (by kernel_rfl) ?_ ?_ (by assumption) ?_
    rotate_left 2
    · simp only [List.getElem?_toArray, List.getElem?_cons_succ, List.getElem?_cons_zero]; rfl
    · exact fun _ _ _ h => h
    · first
        | (refine Or.inr ⟨?_, ?_⟩ <;> rfl)
        | (refine Or.inl ⟨?_, ?_⟩; · rfl
           intro w hSw; (try dsimp only at hSw); go_simp; (try with_reducible rfl); done)
    try simp only [Act.put, List.setIfInBounds_toArray, List.set_cons_zero, List.set_cons_succ]
    refine wpAnyH_take (i := 3) (oi := ?_) (v := ?_) ?_ (by kernel_rfl) (by kernel_rfl) (by kernel_rfl) ?_ ?_ (by assumption) ?_
    rotate_left 2
    · simp only [List.getElem?_toArray, List.getElem?_cons_succ, List.getElem?_cons_zero]; rfl
    · exact fun _ _ _ h => h
    · first
        | (refine Or.inr ⟨?_, ?_⟩ <;> rfl)
        | (refine Or.inl ⟨?_, ?_⟩; · rfl
           intro w hSw; (try dsimp only at hSw); go_simp; (try with_reducible rfl); done)
    try simp only [Act.put, List.setIfInBounds_toArray, List.set_cons_zero, List.set_cons_succ]
    refine wpAnyH_take (i := 4) (oi := ?_) (v := ?_) ?_ (by kernel_rfl) (by kernel_rfl) (by kernel_rfl) ?_ ?_ (by assumption) ?_
    rotate_left 2
    · simp only [List.getElem?_toArray, List.getElem?_cons_succ, List.getElem?_cons_zero]; rfl
    · exact fun _ _ _ h => h
    · first
        | (refine Or.inr ⟨?_, ?_⟩ <;> rfl)
        | (refine Or.inl ⟨?_, ?_⟩; · rfl
           intro w hSw; (try dsimp only at hSw); go_simp; (try with_reducible rfl); done)
    try simp only [Act.put, List.setIfInBounds_toArray, List.set_cons_zero, List.set_cons_succ]
    refine wpAnyH_take (i := 5) (oi := ?_) (v := ?_) ?_ (by kernel_rfl) (by kernel_rfl) (by kernel_rfl) ?_ ?_ (by assumption) ?_
    rotate_left 2
    · simp only [List.getElem?_toArray, List.getElem?_cons_succ, List.getElem?_cons_zero]; rfl
    · exact fun _ _ _ h => h
    · first
        | (refine Or.inr ⟨?_, ?_⟩ <;> rfl)
        | (refine Or.inl ⟨?_, ?_⟩; · rfl
           intro w hSw; (try dsimp only at hSw); go_simp; (try with_reducible rfl); done)
    try simp only [Act.put, List.setIfInBounds_toArray, List.set_cons_zero, List.set_cons_succ]
    refine wpAnyH_take (i := 6) (oi := ?_) (v := ?_) ?_ (by kernel_rfl) (by kernel_rfl) (by kernel_rfl) ?_ ?_ (by assumption) ?_
    rotate_left 2
    · simp only [List.getElem?_toArray, List.getElem?_cons_succ, List.getElem?_cons_zero]; rfl
    · exact fun _ _ _ h => h
    · first
        | (refine Or.inr ⟨?_, ?_⟩ <;> rfl)
        | (refine Or.inl ⟨?_, ?_⟩; · rfl
           intro w hSw; (try dsimp only at hSw); go_simp; (try with_reducible rfl); done)
    try simp only [Act.put, List.setIfInBounds_toArray, List.set_cons_zero, List.set_cons_succ]
    refine wpAnyH_take (i := 7) (oi := ?_) (v := ?_) ?_ (by kernel_rfl) (by kernel_rfl) (by kernel_rfl) ?_ ?_ (by assumption) ?_
    rotate_left 2
    · simp only [List.getElem?_toArray, List.getElem?_cons_succ, List.getElem?_cons_zero]; rfl
    · exact fun _ _ _ h => h
    · first
        | (refine Or.inr ⟨?_, ?_⟩ <;> rfl)
        | (refine Or.inl ⟨?_, ?_⟩; · rfl
           intro w hSw; (try dsimp only at hSw); go_simp; (try with_reducible rfl); done)
    try simp only [Act.put, List.setIfInBounds_toArray, List.set_cons_zero, List.set_cons_succ]
    refine wpAnyH_take (i := 8) (oi := ?_) (v := ?_) ?_ (by kernel_rfl) (by kernel_rfl) (by kernel_rfl) ?_ ?_ (by assumption) ?_
    rotate_left 2
    · simp only [List.getElem?_toArray, List.getElem?_cons_succ, List.getElem?_cons_zero]; rfl
    · exact fun _ _ _ h => h
    · first
        | (refine Or.inr ⟨?_, ?_⟩ <;> rfl)
        | (refine Or.inl ⟨?_, ?_⟩; · rfl
           intro w hSw; (try dsimp only at hSw); go_simp; (try with_reducible rfl); done)
    try simp only [Act.put, List.setIfInBounds_toArray, List.set_cons_zero, List.set_cons_succ]
    refine wpAnyH_take (i := 9) (oi := ?_) (v := ?_) ?_ (by kernel_rfl) (by kernel_rfl) (by kernel_rfl) ?_ ?_ (by assumption) ?_
    rotate_left 2
    · simp only [List.getElem?_toArray, List.getElem?_cons_succ, List.getElem?_cons_zero]; rfl
    · exact fun _ _ _ h => h
    · first
        | (refine Or.inr ⟨?_, ?_⟩ <;> rfl)
        | (refine Or.inl ⟨?_, ?_⟩; · rfl
           intro w hSw; (try dsimp only at hSw); go_simp; (try with_reducible rfl); done)
    try simp only [Act.put, List.setIfInBounds_toArray, List.set_cons_zero, List.set_cons_succ]
    refine wpAnyH_ready (rs := [10, 14]) (by kernel_rfl) (by simp) ?_
    refine AllReadyH.cons (o := ?_) ?_ (fun K hK => ?_) ?_
    rotate_left 1
    · simp only [List.getElem?_toArray, List.getElem?_cons_succ, List.getElem?_cons_zero]; rfl
    · go_simp
      go_at_call 161
      go_must (refine Calls.mono (HST.out _) ?_)
      rintro e w1 ⟨rfl, hb1⟩
      have HM1 := Lib.hid (HM0.out.below (w' := w1) ((Below.refl _ W1).drew.trans hb1) rfl hB3)
      have hmc1 := HM1.out.mb.cell
      have hrc1 := HM1.out.rw.box.cell
      have hbc1 := HM1.out.rw.bl hk
      have hz1 : W1.heap.size ≤ w1.heap.size := hb1.size
      clear hb1 hbc hrc hmc
      refine hK.out _ _ ?_ (fun hHeld => ?_)
      · try dsimp only
        go_keep
      clear hK K
      try simp only [Act.put, List.setIfInBounds_toArray, List.set_cons_zero, List.set_cons_succ]
      refine wpAnyH_take (i := 11) (oi := ?_) (v := ?_) ?_ (by kernel_rfl) (by kernel_rfl) (by kernel_rfl) ?_ ?_ (by assumption) ?_
      rotate_left 2
      · simp only [List.getElem?_toArray, List.getElem?_cons_succ, List.getElem?_cons_zero]; rfl
      · exact fun _ _ _ h => h
      · first
          | (refine Or.inr ⟨?_, ?_⟩ <;> rfl)
          | (refine Or.inl ⟨?_, ?_⟩; · rfl
             intro w hSw; (try dsimp only at hSw); go_simp; (try with_reducible rfl); done)
      try simp only [Act.put, List.setIfInBounds_toArray, List.set_cons_zero, List.set_cons_succ]
      refine wpAnyH_take (i := 12) (oi := ?_) (v := ?_) ?_ (by kernel_rfl) (by kernel_rfl) (by kernel_rfl) ?_ ?_ (by assumption) ?_
      rotate_left 2
      · simp only [List.getElem?_toArray, List.getElem?_cons_succ, List.getElem?_cons_zero]; rfl
      · exact fun _ _ _ h => h
      · first
          | (refine Or.inr ⟨?_, ?_⟩ <;> rfl)
          | (refine Or.inl ⟨?_, ?_⟩; · rfl
             intro w hSw; (try dsimp only at hSw); go_simp; (try with_reducible rfl); done)
      try simp only [Act.put, List.setIfInBounds_toArray, List.set_cons_zero, List.set_cons_succ]
      refine wpAnyH_take (i := 13) (oi := ?_) (v := ?_) ?_ (by kernel_rfl) (by kernel_rfl) (by kernel_rfl) ?_ ?_ (by assumption) ?_
      rotate_left 2
      · simp only [List.getElem?_toArray, List.getElem?_cons_succ, List.getElem?_cons_zero]; rfl
      · exact fun _ _ _ h => h
      · first
          | (refine Or.inr ⟨?_, ?_⟩ <;> rfl)
          | (refine Or.inl ⟨?_, ?_⟩; · rfl
             intro w hSw; (try dsimp only at hSw); go_simp; (try with_reducible rfl); done)
      try simp only [Act.put, List.setIfInBounds_toArray, List.set_cons_zero, List.set_cons_succ]
      refine wpAnyH_ready (rs := [14]) (by kernel_rfl) (by simp) ?_
      refine AllReadyH.cons (o := ?_) ?_ (fun K hK => ?_) AllReadyH.nil
      rotate_left 1
      · simp only [List.getElem?_toArray, List.getElem?_cons_succ, List.getElem?_cons_zero]; rfl
      go_simp
      skip
      refine hK.out _ _ ?_ (fun hHeld => ?_)
      · try dsimp only
        go_keep
      clear hK K
      try simp only [Act.put, List.setIfInBounds_toArray, List.set_cons_zero, List.set_cons_succ]
      have HMz : Hid (∀ a, MvM B w (w1.alloc a) r gb cb gt ct x (k : Int) l) := fun a => HM1.out.below ((Below.refl w1.heap.size w1).alloc (Nat.le_refl _) a) rfl hB3
      refine wpAnyH_ready (rs := [15]) (by kernel_rfl) (by simp) ?_
      refine AllReadyH.cons (o := ?_) ?_ (fun K hK => ?_) AllReadyH.nil
      rotate_left 1
      · simp only [List.getElem?_toArray, List.getElem?_cons_succ, List.getElem?_cons_zero]; rfl
      go_simp
      skip
      refine hK.out _ _ ?_ (fun hHeld => ?_)
      · try dsimp only
        go_keep
      clear hK K
      try simp only [Act.put, List.setIfInBounds_toArray, List.set_cons_zero, List.set_cons_succ]
      refine wpAnyH_take (i := 16) (oi := ?_) (v := ?_) ?_ (by kernel_rfl) (by kernel_rfl) (by kernel_rfl) ?_ ?_ (by assumption) ?_
      rotate_left 2
      · simp only [List.getElem?_toArray, List.getElem?_cons_succ, List.getElem?_cons_zero]; rfl
      · exact fun _ _ _ h => h
      · first
          | (refine Or.inr ⟨?_, ?_⟩ <;> rfl)
          | (refine Or.inl ⟨?_, ?_⟩; · rfl
             intro w hSw; (try dsimp only at hSw); go_simp; (try with_reducible rfl); done)
      try simp only [Act.put, List.setIfInBounds_toArray, List.set_cons_zero, List.set_cons_succ]
      refine wpAnyH_done (by kernel_rfl) ?_ _
      go_wp2_with fail
      go_meet
      exact ⟨w1.heap.size, ba, bb, bc, rfl, rfl, HMz.out _, Bx.new _ _ _, by omega, HBV.out⟩
    refine AllReadyH.cons (o := ?_) ?_ (fun K hK => ?_) ?_
    rotate_left 1
    · simp only [List.getElem?_toArray, List.getElem?_cons_succ, List.getElem?_cons_zero]; rfl
    · go_simp
      skip
      refine hK.out _ _ ?_ (fun hHeld => ?_)
      · try dsimp only
        go_keep
      clear hK K
      try simp only [Act.put, List.setIfInBounds_toArray, List.set_cons_zero, List.set_cons_succ]
      have HMa : Hid (∀ a, MvM B w (W1.drew.alloc a) r gb cb gt ct x (k : Int) l) := fun a => HM0.out.below (D := W1.heap.size) ((Below.refl _ W1).drew.alloc (Nat.le_refl _) a) rfl hB3
      refine wpAnyH_ready (rs := [10]) (by kernel_rfl) (by simp) ?_
      refine AllReadyH.cons (o := ?_) ?_ (fun K hK => ?_) AllReadyH.nil
      rotate_left 1
      · simp only [List.getElem?_toArray, List.getElem?_cons_succ, List.getElem?_cons_zero]; rfl
      go_simp
      go_at_call 161
      go_must (refine Calls.mono (HST.out _) ?_)
      rintro e w1 ⟨rfl, hb1⟩
      have HM1 := Lib.hid ((HMa.out _).below (w' := w1) hb1 rfl hB3)
      have HX1 : Hid (Bx w1 W1.heap.size 76 #[.int .i64 0, .bool false, .bool false]) := (Bx.new W1.drew _ _).below hb1 (by simp)
      have hmc1 := HM1.out.mb.cell
      have hrc1 := HM1.out.rw.box.cell
      have hbc1 := HM1.out.rw.bl hk
      have hz1 : W1.heap.size + 1 ≤ w1.heap.size := by have := hb1.size; simpa using this
      clear hb1 hbc hrc hmc
      refine hK.out _ _ ?_ (fun hHeld => ?_)
      · try dsimp only
        go_keep
      clear hK K
      try simp only [Act.put, List.setIfInBounds_toArray, List.set_cons_zero, List.set_cons_succ]
      refine wpAnyH_take (i := 11) (oi := ?_) (v := ?_) ?_ (by kernel_rfl) (by kernel_rfl) (by kernel_rfl) ?_ ?_ (by assumption) ?_
      rotate_left 2
      · simp only [List.getElem?_toArray, List.getElem?_cons_succ, List.getElem?_cons_zero]; rfl
      · exact fun _ _ _ h => h
      · first
          | (refine Or.inr ⟨?_, ?_⟩ <;> rfl)
          | (refine Or.inl ⟨?_, ?_⟩; · rfl
             intro w hSw; (try dsimp only at hSw); go_simp; (try with_reducible rfl); done)
      try simp only [Act.put, List.setIfInBounds_toArray, List.set_cons_zero, List.set_cons_succ]
      refine wpAnyH_take (i := 12) (oi := ?_) (v := ?_) ?_ (by kernel_rfl) (by kernel_rfl) (by kernel_rfl) ?_ ?_ (by assumption) ?_
      rotate_left 2
      · simp only [List.getElem?_toArray, List.getElem?_cons_succ, List.getElem?_cons_zero]; rfl
      · exact fun _ _ _ h => h
      · first
          | (refine Or.inr ⟨?_, ?_⟩ <;> rfl)
          | (refine Or.inl ⟨?_, ?_⟩; · rfl
             intro w hSw; (try dsimp only at hSw); go_simp; (try with_reducible rfl); done)
      try simp only [Act.put, List.setIfInBounds_toArray, List.set_cons_zero, List.set_cons_succ]
      refine wpAnyH_take (i := 13) (oi := ?_) (v := ?_) ?_ (by kernel_rfl) (by kernel_rfl) (by kernel_rfl) ?_ ?_ (by assumption) ?_
      rotate_left 2
      · simp only [List.getElem?_toArray, List.getElem?_cons_succ, List.getElem?_cons_zero]; rfl
      · exact fun _ _ _ h => h
      · first
          | (refine Or.inr ⟨?_, ?_⟩ <;> rfl)
          | (refine Or.inl ⟨?_, ?_⟩; · rfl
             intro w hSw; (try dsimp only at hSw); go_simp; (try with_reducible rfl); done)
      try simp only [Act.put, List.setIfInBounds_toArray, List.set_cons_zero, List.set_cons_succ]
      have hnx : W1.heap.size ≠ w.heap.size ∧ W1.heap.size ≠ r ∧ W1.heap.size ≠ gb ∧ W1.heap.size ≠ gt := by omega
      have HMs := Lib.hid (((HM1.out.setOther (b := W1.heap.size) (o := 0) (.inr (by omega)) (by omega) (.int .i64 ba)).setOther (b := W1.heap.size) (o := 1) (.inr (by omega)) (by omega) (.bool bb)).setOther (b := W1.heap.size) (o := 2) (.inr (by omega)) (by omega) (.bool bc))
      have hxc := HX1.out.cell
      have hxf := HX1.out.free
      refine wpAnyH_ready (rs := [15]) (by kernel_rfl) (by simp) ?_
      refine AllReadyH.cons (o := ?_) ?_ (fun K hK => ?_) AllReadyH.nil
      rotate_left 1
      · simp only [List.getElem?_toArray, List.getElem?_cons_succ, List.getElem?_cons_zero]; rfl
      go_simp
      refine hK.out _ _ ?_ (fun hHeld => ?_)
      · try dsimp only
        exact ⟨HMs.out.mb.cell 0, HMs.out.mb.cell 1, HMs.out.rw.box.cell 0, HMs.out.rw.bl hk⟩
      clear hK K
      try simp only [Act.put, List.setIfInBounds_toArray, List.set_cons_zero, List.set_cons_succ]
      refine wpAnyH_take (i := 16) (oi := ?_) (v := ?_) ?_ (by kernel_rfl) (by kernel_rfl) (by kernel_rfl) ?_ ?_ (by assumption) ?_
      rotate_left 2
      · simp only [List.getElem?_toArray, List.getElem?_cons_succ, List.getElem?_cons_zero]; rfl
      · exact fun _ _ _ h => h
      · first
          | (refine Or.inr ⟨?_, ?_⟩ <;> rfl)
          | (refine Or.inl ⟨?_, ?_⟩; · rfl
             intro w hSw; (try dsimp only at hSw); go_simp; (try with_reducible rfl); done)
      try simp only [Act.put, List.setIfInBounds_toArray, List.set_cons_zero, List.set_cons_succ]
      refine wpAnyH_done (by kernel_rfl) ?_ _
      go_wp2_with fail
      go_meet
      exact ⟨W1.heap.size, ba, bb, bc, rfl, rfl, HMs.out, bx3 HX1.out _ _ _, Nat.le_refl _, HBV.out⟩
    exact AllReadyH.nil
  case rest =>
  obtain ⟨b5, a, b, c, rfl, rfl, hmv, hx5, hz5, hbv⟩ := hcut
  have HM := Lib.hid hmv
  have HX := Lib.hid hx5
  clear hmc hrc hbc hmv hx5
  by_cases hj5 : ¬ mvJ x (k : Int) l < 5
  · have HV := Lib.hid (mvOk_st hj5)
    have hd : decide (mvJ x (k : Int) l < 5) = false := decide_eq_false hj5
    rw [hd]
    clear hj5 hd
    go_wp2_with fail
    go_ret
    exact MvR.no HM.out.rw HM.out.bl HV.out
  replace hj5 := Decidable.not_not.1 hj5
  have hd : decide (mvJ x (k : Int) l < 5) = true := decide_eq_true hj5
  rw [hd]
  have HJ5 := Lib.hid hj5
  have HA : Hid ((stB (mvJ x (k : Int) l)).n = a ∧ (stB (mvJ x (k : Int) l)).i = b ∧ (stB (mvJ x (k : Int) l)).o = c) := by
    show _ ∧ _ ∧ _
    unfold bsV at hbv
    rw [if_pos hj5] at hbv
    unfold bkA at hbv
    simpa using hbv
  clear hd hj5 hbv
  have hmc := HM.out.mb.cell
  have hrc := HM.out.rw.box.cell
  have hxl := HX.out.lt
  have hml := HM.out.mb.lt
  have hne5 : b5 ≠ gb ∧ b5 ≠ gt ∧ b5 ≠ r ∧ b5 ≠ w.heap.size := by omega
  obtain ⟨hn1, hn2, hn3, hn4⟩ := hne5
  by_cases e1 : l = ⟨#[101]⟩
  · have HELp : (eB l || lB l) = true ∧ plI (k : Int) l = 2 * (k : Int) := by
      have h : eB l = true := decide_eq_true e1
      exact ⟨by rw [h]; rfl, if_pos h⟩
    have t1 := tl_some e1
    clear e1
    have HEL : Hid ((eB l || lB l) = true ∧ plI (k : Int) l = (2 * (k : Int))) := HELp
    obtain ⟨j, hj⟩ : ∃ j, j = fstA x.T (2 * (k : Int)) x.m := ⟨_, rfl⟩
    have HIX : Hid (Calls Tryz.prog 162 #[.slice (some ⟨gt, 0, none⟩) x.m ct, .int .i64 (2 * (k : Int))] wc fun e w' => e = .returned (.int .i64 (if j < x.m then (j : Int) else -1)) ∧ wc = w') := by
      rw [hj]
      exact index_any gt 0 x.m ct x.T (2 * (k : Int)) wc hm HM.out.rw.ic
    by_cases hjm : ¬ j < x.m
    · have HV : Hid (mvOk x (k : Int) l = false) := mvOk_tr HEL.out.1 (by rw [HEL.out.2, ← hj]; exact hjm)
      have HIF : Hid ((if j < x.m then (j : Int) else -1) = -1) := if_neg hjm
      clear hjm hj
      go_wp2_with fail
      refine HIX.out.mono ?_
      rintro e w' ⟨rfl, rfl⟩
      rw [HIF.out]
      go_wp2_with fail
      go_ret
      exact MvR.no HM.out.rw HM.out.bl HV.out
    replace hjm := Decidable.not_not.1 hjm
    have HYES : Hid (mvOk x (k : Int) l = true) := mvOk_yes HKL.out HJ5.out (.inr (by rw [HEL.out.2, ← hj]; exact hjm))
    have hTj : x.T j = (2 * (k : Int)) := by rw [hj]; exact fstA_at x.T _ x.m (by rw [← hj]; exact hjm)
    have HT : Hid (mvTo x (k : Int) l = { n := x.n, N := upd x.N k a, I := upd x.I k b, O := upd x.O k c, m := x.m, T := upd x.T j ((2 * (k : Int)) + 1) }) := by
      show _ = _
      obtain ⟨a1, a2, a3⟩ := HA.out
      unfold mvTo
      rw [if_pos HEL.out.1, HEL.out.2, ← hj, a1, a2, a3]
      rfl
    have hcj := HM.out.rw.tr hjm
    rw [hTj] at hcj
    have HIF : Hid ((if j < x.m then (j : Int) else -1) = j) := if_pos hjm
    clear hj hTj
    have hfj := HM.out.rw.ts.free j
    have hjI : (j : Int) < (x.m : Int) := by omega
    go_wp2_with fail
    refine HIX.out.mono ?_
    rintro e w' ⟨rfl, rfl⟩
    rw [HIF.out]
    go_wp2_with fail
    have HMd := Lib.hid (HM.out.setTr (by omega) hB2 j ((2 * (k : Int)) + 1))
    have HXd : Hid (Bx (wc.setCell ⟨gt, j, none⟩ (.int .i64 ((2 * (k : Int)) + 1))) b5 76 #[.int .i64 a, .bool b, .bool c]) := HX.out.setOther (by dsimp only; omega) _
    generalize hwd : wc.setCell ⟨gt, j, none⟩ (.int .i64 ((2 * (k : Int)) + 1)) = wd at *
    clear hwd
    have hmc := HMd.out.mb.cell
    have hrc := HMd.out.rw.box.cell
    have hxc := HXd.out.cell
    have hbc := HMd.out.rw.bl hk
    have hbf := HMd.out.rw.bs.free
    refine wp_region_held_drew (S := (fun w' => w'.cell? ⟨w.heap.size, 0, none⟩ = some (.int .i64 (k : Int)) ∧ w'.cell? ⟨r, 0, none⟩ = some (.slice (some ⟨gb, 0, none⟩) x.n cb) ∧ w'.cell? ⟨b5, 0, none⟩ = some (.int .i64 a) ∧ w'.cell? ⟨b5, 1, none⟩ = some (.bool b) ∧ w'.cell? ⟨b5, 2, none⟩ = some (.bool c))) (by kernel_rfl) ?_ (fun hHeld => ?_)
    · try dsimp only
      go_keep
    refine wpAnyH_take (i := 0) (oi := ?_) (v := ?_) ?_ (by kernel_rfl) (by kernel_rfl) (by kernel_rfl) ?_ ?_ (by assumption) ?_
    rotate_left 2
    · simp only [List.getElem?_toArray, List.getElem?_cons_succ, List.getElem?_cons_zero]; rfl
    · exact fun _ _ _ h => h
    · first
        | (refine Or.inr ⟨?_, ?_⟩ <;> rfl)
        | (refine Or.inl ⟨?_, ?_⟩; · rfl
           intro w hSw; (try dsimp only at hSw); go_simp; (try with_reducible rfl); done)
    try simp only [Act.put, List.setIfInBounds_toArray, List.set_cons_zero, List.set_cons_succ]
    refine wpAnyH_take (i := 1) (oi := ?_) (v := ?_) ?_ (by kernel_rfl) (by kernel_rfl) (by kernel_rfl) ?_ ?_ (by assumption) ?_
    rotate_left 2
    · simp only [List.getElem?_toArray, List.getElem?_cons_succ, List.getElem?_cons_zero]; rfl
    · exact fun _ _ _ h => h
    · first
        | (refine Or.inr ⟨?_, ?_⟩ <;> rfl)
        | (refine Or.inl ⟨?_, ?_⟩; · rfl
           intro w hSw; (try dsimp only at hSw); go_simp; (try with_reducible rfl); done)
    try simp only [Act.put, List.setIfInBounds_toArray, List.set_cons_zero, List.set_cons_succ]
    refine wpAnyH_take (i := 2) (oi := ?_) (v := ?_) ?_ (by kernel_rfl) (by kernel_rfl) (by kernel_rfl) ?_ ?_ (by assumption) ?_
    rotate_left 2
    · simp only [List.getElem?_toArray, List.getElem?_cons_succ, List.getElem?_cons_zero]; rfl
    · exact fun _ _ _ h => h
    · first
        | (refine Or.inr ⟨?_, ?_⟩ <;> rfl)
        | (refine Or.inl ⟨?_, ?_⟩; · rfl
           intro w hSw; (try dsimp only at hSw); go_simp; (try with_reducible rfl); done)
    try simp only [Act.put, List.setIfInBounds_toArray, List.set_cons_zero, List.set_cons_succ]
    refine wpAnyH_take (i := 3) (oi := ?_) (v := ?_) ?_ (by kernel_rfl) (by kernel_rfl) (by kernel_rfl) ?_ ?_ (by assumption) ?_
    rotate_left 2
    · simp only [List.getElem?_toArray, List.getElem?_cons_succ, List.getElem?_cons_zero]; rfl
    · exact fun _ _ _ h => h
    · first
        | (refine Or.inr ⟨?_, ?_⟩ <;> rfl)
        | (refine Or.inl ⟨?_, ?_⟩; · rfl
           intro w hSw; (try dsimp only at hSw); go_simp; (try with_reducible rfl); done)
    try simp only [Act.put, List.setIfInBounds_toArray, List.set_cons_zero, List.set_cons_succ]
    refine wpAnyH_take (i := 4) (oi := ?_) (v := ?_) ?_ (by kernel_rfl) (by kernel_rfl) (by kernel_rfl) ?_ ?_ (by assumption) ?_
    rotate_left 2
    · simp only [List.getElem?_toArray, List.getElem?_cons_succ, List.getElem?_cons_zero]; rfl
    · exact fun _ _ _ h => h
    · first
        | (refine Or.inr ⟨?_, ?_⟩ <;> rfl)
        | (refine Or.inl ⟨?_, ?_⟩; · rfl
           intro w hSw; (try dsimp only at hSw); go_simp; (try with_reducible rfl); done)
    try simp only [Act.put, List.setIfInBounds_toArray, List.set_cons_zero, List.set_cons_succ]
    refine wpAnyH_take (i := 5) (oi := ?_) (v := ?_) ?_ (by kernel_rfl) (by kernel_rfl) (by kernel_rfl) ?_ ?_ (by assumption) ?_
    rotate_left 2
    · simp only [List.getElem?_toArray, List.getElem?_cons_succ, List.getElem?_cons_zero]; rfl
    · exact fun _ _ _ h => h
    · first
        | (refine Or.inr ⟨?_, ?_⟩ <;> rfl)
        | (refine Or.inl ⟨?_, ?_⟩; · rfl
           intro w hSw; (try dsimp only at hSw); go_simp; (try with_reducible rfl); done)
    try simp only [Act.put, List.setIfInBounds_toArray, List.set_cons_zero, List.set_cons_succ]
    refine wpAnyH_take (i := 6) (oi := ?_) (v := ?_) ?_ (by kernel_rfl) (by kernel_rfl) (by kernel_rfl) ?_ ?_ (by assumption) ?_
    rotate_left 2
    · simp only [List.getElem?_toArray, List.getElem?_cons_succ, List.getElem?_cons_zero]; rfl
    · exact fun _ _ _ h => h
    · first
        | (refine Or.inr ⟨?_, ?_⟩ <;> rfl)
        | (refine Or.inl ⟨?_, ?_⟩; · rfl
           intro w hSw; (try dsimp only at hSw); go_simp; (try with_reducible rfl); done)
    try simp only [Act.put, List.setIfInBounds_toArray, List.set_cons_zero, List.set_cons_succ]
    refine wpAnyH_take (i := 7) (oi := ?_) (v := ?_) ?_ (by kernel_rfl) (by kernel_rfl) (by kernel_rfl) ?_ ?_ (by assumption) ?_
    rotate_left 2
    · simp only [List.getElem?_toArray, List.getElem?_cons_succ, List.getElem?_cons_zero]; rfl
    · exact fun _ _ _ h => h
    · first
        | (refine Or.inr ⟨?_, ?_⟩ <;> rfl)
        | (refine Or.inl ⟨?_, ?_⟩; · rfl
           intro w hSw; (try dsimp only at hSw); go_simp; (try with_reducible rfl); done)
    try simp only [Act.put, List.setIfInBounds_toArray, List.set_cons_zero, List.set_cons_succ]
    have HMs := Lib.hid ((HMd.out.below (Below.refl _ wd).drew rfl hB3).setBk (by omega) hB1 k a b c)
    have HXs : Hid (Bx ((((wd.drew).setCell ⟨gb, k * 3, none⟩ (.int .i64 a)).setCell ⟨gb, k * 3 + 1, none⟩ (.bool b)).setCell ⟨gb, k * 3 + 2, none⟩ (.bool c)) b5 76 #[.int .i64 a, .bool b, .bool c]) := ((HXd.out.drew.setOther (by dsimp only; omega) _).setOther (by dsimp only; omega) _).setOther (by dsimp only; omega) _
    refine wpAnyH_ready (rs := [8]) (by kernel_rfl) (by simp) ?_
    refine AllReadyH.cons (o := ?_) ?_ (fun K hK => ?_) AllReadyH.nil
    rotate_left 1
    · simp only [List.getElem?_toArray, List.getElem?_cons_succ, List.getElem?_cons_zero]; rfl
    go_simp
    refine hK.out _ _ ?_ (fun hHeld => ?_)
    · try dsimp only
      exact ⟨HMs.out.mb.cell 0, HMs.out.rw.box.cell 0, HXs.out.cell 0, HXs.out.cell 1, HXs.out.cell 2⟩
    clear hK K
    try simp only [Act.put, List.setIfInBounds_toArray, List.set_cons_zero, List.set_cons_succ]
    refine wpAnyH_done (by kernel_rfl) ?_ _
    go_wp2_with fail
    go_ret
    exact MvR.yes (by rw [HT.out]; exact HMs.out.rw) HMs.out.bl HYES.out
  by_cases e2 : l = ⟨#[108]⟩
  · have HELp : (eB l || lB l) = true ∧ plI (k : Int) l = 2 * (k : Int) + 1 := by
      have h1 : eB l = false := decide_eq_false e1
      have h2 : lB l = true := decide_eq_true e2
      refine ⟨by rw [h1, h2]; rfl, ?_⟩
      unfold plI
      rw [if_neg (by simp [h1]), if_pos h2]
    have t1 := tl_one e1
    have t2 := tl_some e2
    clear e1 e2
    have HEL : Hid ((eB l || lB l) = true ∧ plI (k : Int) l = (2 * (k : Int) + 1)) := HELp
    obtain ⟨j, hj⟩ : ∃ j, j = fstA x.T (2 * (k : Int) + 1) x.m := ⟨_, rfl⟩
    have HIX : Hid (Calls Tryz.prog 162 #[.slice (some ⟨gt, 0, none⟩) x.m ct, .int .i64 (2 * (k : Int) + 1)] wc fun e w' => e = .returned (.int .i64 (if j < x.m then (j : Int) else -1)) ∧ wc = w') := by
      rw [hj]
      exact index_any gt 0 x.m ct x.T (2 * (k : Int) + 1) wc hm HM.out.rw.ic
    by_cases hjm : ¬ j < x.m
    · have HV : Hid (mvOk x (k : Int) l = false) := mvOk_tr HEL.out.1 (by rw [HEL.out.2, ← hj]; exact hjm)
      have HIF : Hid ((if j < x.m then (j : Int) else -1) = -1) := if_neg hjm
      clear hjm hj
      go_wp2_with fail
      refine HIX.out.mono ?_
      rintro e w' ⟨rfl, rfl⟩
      rw [HIF.out]
      go_wp2_with fail
      go_ret
      exact MvR.no HM.out.rw HM.out.bl HV.out
    replace hjm := Decidable.not_not.1 hjm
    have HYES : Hid (mvOk x (k : Int) l = true) := mvOk_yes HKL.out HJ5.out (.inr (by rw [HEL.out.2, ← hj]; exact hjm))
    have hTj : x.T j = (2 * (k : Int) + 1) := by rw [hj]; exact fstA_at x.T _ x.m (by rw [← hj]; exact hjm)
    have HT : Hid (mvTo x (k : Int) l = { n := x.n, N := upd x.N k a, I := upd x.I k b, O := upd x.O k c, m := x.m, T := upd x.T j ((2 * (k : Int) + 1) + 1) }) := by
      show _ = _
      obtain ⟨a1, a2, a3⟩ := HA.out
      unfold mvTo
      rw [if_pos HEL.out.1, HEL.out.2, ← hj, a1, a2, a3]
      rfl
    have hcj := HM.out.rw.tr hjm
    rw [hTj] at hcj
    have HIF : Hid ((if j < x.m then (j : Int) else -1) = j) := if_pos hjm
    clear hj hTj
    have hfj := HM.out.rw.ts.free j
    have hjI : (j : Int) < (x.m : Int) := by omega
    go_wp2_with fail
    refine HIX.out.mono ?_
    rintro e w' ⟨rfl, rfl⟩
    rw [HIF.out]
    go_wp2_with fail
    have HMd := Lib.hid (HM.out.setTr (by omega) hB2 j ((2 * (k : Int) + 1) + 1))
    have HXd : Hid (Bx (wc.setCell ⟨gt, j, none⟩ (.int .i64 ((2 * (k : Int) + 1) + 1))) b5 76 #[.int .i64 a, .bool b, .bool c]) := HX.out.setOther (by dsimp only; omega) _
    generalize hwd : wc.setCell ⟨gt, j, none⟩ (.int .i64 ((2 * (k : Int) + 1) + 1)) = wd at *
    clear hwd
    have hmc := HMd.out.mb.cell
    have hrc := HMd.out.rw.box.cell
    have hxc := HXd.out.cell
    have hbc := HMd.out.rw.bl hk
    have hbf := HMd.out.rw.bs.free
    refine wp_region_held_drew (S := (fun w' => w'.cell? ⟨w.heap.size, 0, none⟩ = some (.int .i64 (k : Int)) ∧ w'.cell? ⟨r, 0, none⟩ = some (.slice (some ⟨gb, 0, none⟩) x.n cb) ∧ w'.cell? ⟨b5, 0, none⟩ = some (.int .i64 a) ∧ w'.cell? ⟨b5, 1, none⟩ = some (.bool b) ∧ w'.cell? ⟨b5, 2, none⟩ = some (.bool c))) (by kernel_rfl) ?_ (fun hHeld => ?_)
    · try dsimp only
      go_keep
    refine wpAnyH_take (i := 0) (oi := ?_) (v := ?_) ?_ (by kernel_rfl) (by kernel_rfl) (by kernel_rfl) ?_ ?_ (by assumption) ?_
    rotate_left 2
    · simp only [List.getElem?_toArray, List.getElem?_cons_succ, List.getElem?_cons_zero]; rfl
    · exact fun _ _ _ h => h
    · first
        | (refine Or.inr ⟨?_, ?_⟩ <;> rfl)
        | (refine Or.inl ⟨?_, ?_⟩; · rfl
           intro w hSw; (try dsimp only at hSw); go_simp; (try with_reducible rfl); done)
    try simp only [Act.put, List.setIfInBounds_toArray, List.set_cons_zero, List.set_cons_succ]
    refine wpAnyH_take (i := 1) (oi := ?_) (v := ?_) ?_ (by kernel_rfl) (by kernel_rfl) (by kernel_rfl) ?_ ?_ (by assumption) ?_
    rotate_left 2
    · simp only [List.getElem?_toArray, List.getElem?_cons_succ, List.getElem?_cons_zero]; rfl
    · exact fun _ _ _ h => h
    · first
        | (refine Or.inr ⟨?_, ?_⟩ <;> rfl)
        | (refine Or.inl ⟨?_, ?_⟩; · rfl
           intro w hSw; (try dsimp only at hSw); go_simp; (try with_reducible rfl); done)
    try simp only [Act.put, List.setIfInBounds_toArray, List.set_cons_zero, List.set_cons_succ]
    refine wpAnyH_take (i := 2) (oi := ?_) (v := ?_) ?_ (by kernel_rfl) (by kernel_rfl) (by kernel_rfl) ?_ ?_ (by assumption) ?_
    rotate_left 2
    · simp only [List.getElem?_toArray, List.getElem?_cons_succ, List.getElem?_cons_zero]; rfl
    · exact fun _ _ _ h => h
    · first
        | (refine Or.inr ⟨?_, ?_⟩ <;> rfl)
        | (refine Or.inl ⟨?_, ?_⟩; · rfl
           intro w hSw; (try dsimp only at hSw); go_simp; (try with_reducible rfl); done)
    try simp only [Act.put, List.setIfInBounds_toArray, List.set_cons_zero, List.set_cons_succ]
    refine wpAnyH_take (i := 3) (oi := ?_) (v := ?_) ?_ (by kernel_rfl) (by kernel_rfl) (by kernel_rfl) ?_ ?_ (by assumption) ?_
    rotate_left 2
    · simp only [List.getElem?_toArray, List.getElem?_cons_succ, List.getElem?_cons_zero]; rfl
    · exact fun _ _ _ h => h
    · first
        | (refine Or.inr ⟨?_, ?_⟩ <;> rfl)
        | (refine Or.inl ⟨?_, ?_⟩; · rfl
           intro w hSw; (try dsimp only at hSw); go_simp; (try with_reducible rfl); done)
    try simp only [Act.put, List.setIfInBounds_toArray, List.set_cons_zero, List.set_cons_succ]
    refine wpAnyH_take (i := 4) (oi := ?_) (v := ?_) ?_ (by kernel_rfl) (by kernel_rfl) (by kernel_rfl) ?_ ?_ (by assumption) ?_
    rotate_left 2
    · simp only [List.getElem?_toArray, List.getElem?_cons_succ, List.getElem?_cons_zero]; rfl
    · exact fun _ _ _ h => h
    · first
        | (refine Or.inr ⟨?_, ?_⟩ <;> rfl)
        | (refine Or.inl ⟨?_, ?_⟩; · rfl
           intro w hSw; (try dsimp only at hSw); go_simp; (try with_reducible rfl); done)
    try simp only [Act.put, List.setIfInBounds_toArray, List.set_cons_zero, List.set_cons_succ]
    refine wpAnyH_take (i := 5) (oi := ?_) (v := ?_) ?_ (by kernel_rfl) (by kernel_rfl) (by kernel_rfl) ?_ ?_ (by assumption) ?_
    rotate_left 2
    · simp only [List.getElem?_toArray, List.getElem?_cons_succ, List.getElem?_cons_zero]; rfl
    · exact fun _ _ _ h => h
    · first
        | (refine Or.inr ⟨?_, ?_⟩ <;> rfl)
        | (refine Or.inl ⟨?_, ?_⟩; · rfl
           intro w hSw; (try dsimp only at hSw); go_simp; (try with_reducible rfl); done)
    try simp only [Act.put, List.setIfInBounds_toArray, List.set_cons_zero, List.set_cons_succ]
    refine wpAnyH_take (i := 6) (oi := ?_) (v := ?_) ?_ (by kernel_rfl) (by kernel_rfl) (by kernel_rfl) ?_ ?_ (by assumption) ?_
    rotate_left 2
    · simp only [List.getElem?_toArray, List.getElem?_cons_succ, List.getElem?_cons_zero]; rfl
    · exact fun _ _ _ h => h
    · first
        | (refine Or.inr ⟨?_, ?_⟩ <;> rfl)
        | (refine Or.inl ⟨?_, ?_⟩; · rfl
           intro w hSw; (try dsimp only at hSw); go_simp; (try with_reducible rfl); done)
    try simp only [Act.put, List.setIfInBounds_toArray, List.set_cons_zero, List.set_cons_succ]
    refine wpAnyH_take (i := 7) (oi := ?_) (v := ?_) ?_ (by kernel_rfl) (by kernel_rfl) (by kernel_rfl) ?_ ?_ (by assumption) ?_
    rotate_left 2
    · simp only [List.getElem?_toArray, List.getElem?_cons_succ, List.getElem?_cons_zero]; rfl
    · exact fun _ _ _ h => h
    · first
        | (refine Or.inr ⟨?_, ?_⟩ <;> rfl)
        | (refine Or.inl ⟨?_, ?_⟩; · rfl
           intro w hSw; (try dsimp only at hSw); go_simp; (try with_reducible rfl); done)
    try simp only [Act.put, List.setIfInBounds_toArray, List.set_cons_zero, List.set_cons_succ]
    have HMs := Lib.hid ((HMd.out.below (Below.refl _ wd).drew rfl hB3).setBk (by omega) hB1 k a b c)
    have HXs : Hid (Bx ((((wd.drew).setCell ⟨gb, k * 3, none⟩ (.int .i64 a)).setCell ⟨gb, k * 3 + 1, none⟩ (.bool b)).setCell ⟨gb, k * 3 + 2, none⟩ (.bool c)) b5 76 #[.int .i64 a, .bool b, .bool c]) := ((HXd.out.drew.setOther (by dsimp only; omega) _).setOther (by dsimp only; omega) _).setOther (by dsimp only; omega) _
    refine wpAnyH_ready (rs := [8]) (by kernel_rfl) (by simp) ?_
    refine AllReadyH.cons (o := ?_) ?_ (fun K hK => ?_) AllReadyH.nil
    rotate_left 1
    · simp only [List.getElem?_toArray, List.getElem?_cons_succ, List.getElem?_cons_zero]; rfl
    go_simp
    refine hK.out _ _ ?_ (fun hHeld => ?_)
    · try dsimp only
      exact ⟨HMs.out.mb.cell 0, HMs.out.rw.box.cell 0, HXs.out.cell 0, HXs.out.cell 1, HXs.out.cell 2⟩
    clear hK K
    try simp only [Act.put, List.setIfInBounds_toArray, List.set_cons_zero, List.set_cons_succ]
    refine wpAnyH_done (by kernel_rfl) ?_ _
    go_wp2_with fail
    go_ret
    exact MvR.yes (by rw [HT.out]; exact HMs.out.rw) HMs.out.bl HYES.out
  have HMd := HM
  have HXd := HX
  have hxc := HXd.out.cell
  have hbc := HMd.out.rw.bl hk
  have hbf := HMd.out.rw.bs.free
  have t1 := tl_one e1
  have t2 := tl_one e2
  have HNE : Hid ((eB l || lB l) = false) := by
    show _ = _
    have h1 : eB l = false := decide_eq_false e1
    have h2 : lB l = false := decide_eq_false e2
    rw [h1, h2]; rfl
  have HYES : Hid (mvOk x (k : Int) l = true) := mvOk_yes HKL.out HJ5.out (.inl HNE.out)
  have HT : Hid (mvTo x (k : Int) l = { n := x.n, N := upd x.N k a, I := upd x.I k b, O := upd x.O k c, m := x.m, T := x.T }) := by
    show _ = _
    obtain ⟨a1, a2, a3⟩ := HA.out
    unfold mvTo
    rw [HNE.out, if_neg (by simp), a1, a2, a3]
    rfl
  clear e1 e2
  go_wp2_with fail
  refine wp_region_held_drew (S := (fun w' => w'.cell? ⟨w.heap.size, 0, none⟩ = some (.int .i64 (k : Int)) ∧ w'.cell? ⟨r, 0, none⟩ = some (.slice (some ⟨gb, 0, none⟩) x.n cb) ∧ w'.cell? ⟨b5, 0, none⟩ = some (.int .i64 a) ∧ w'.cell? ⟨b5, 1, none⟩ = some (.bool b) ∧ w'.cell? ⟨b5, 2, none⟩ = some (.bool c))) (by kernel_rfl) ?_ (fun hHeld => ?_)
  · try dsimp only
    go_keep
  refine wpAnyH_take (i := 0) (oi := ?_) (v := ?_) ?_ (by kernel_rfl) (by kernel_rfl) (by kernel_rfl) ?_ ?_ (by assumption) ?_
  rotate_left 2
  · simp only [List.getElem?_toArray, List.getElem?_cons_succ, List.getElem?_cons_zero]; rfl
  · exact fun _ _ _ h => h
  · first
      | (refine Or.inr ⟨?_, ?_⟩ <;> rfl)
      | (refine Or.inl ⟨?_, ?_⟩; · rfl
         intro w hSw; (try dsimp only at hSw); go_simp; (try with_reducible rfl); done)
  try simp only [Act.put, List.setIfInBounds_toArray, List.set_cons_zero, List.set_cons_succ]
  refine wpAnyH_take (i := 1) (oi := ?_) (v := ?_) ?_ (by kernel_rfl) (by kernel_rfl) (by kernel_rfl) ?_ ?_ (by assumption) ?_
  rotate_left 2
  · simp only [List.getElem?_toArray, List.getElem?_cons_succ, List.getElem?_cons_zero]; rfl
  · exact fun _ _ _ h => h
  · first
      | (refine Or.inr ⟨?_, ?_⟩ <;> rfl)
      | (refine Or.inl ⟨?_, ?_⟩; · rfl
         intro w hSw; (try dsimp only at hSw); go_simp; (try with_reducible rfl); done)
  try simp only [Act.put, List.setIfInBounds_toArray, List.set_cons_zero, List.set_cons_succ]
  refine wpAnyH_take (i := 2) (oi := ?_) (v := ?_) ?_ (by kernel_rfl) (by kernel_rfl) (by kernel_rfl) ?_ ?_ (by assumption) ?_
  rotate_left 2
  · simp only [List.getElem?_toArray, List.getElem?_cons_succ, List.getElem?_cons_zero]; rfl
  · exact fun _ _ _ h => h
  · first
      | (refine Or.inr ⟨?_, ?_⟩ <;> rfl)
      | (refine Or.inl ⟨?_, ?_⟩; · rfl
         intro w hSw; (try dsimp only at hSw); go_simp; (try with_reducible rfl); done)
  try simp only [Act.put, List.setIfInBounds_toArray, List.set_cons_zero, List.set_cons_succ]
  refine wpAnyH_take (i := 3) (oi := ?_) (v := ?_) ?_ (by kernel_rfl) (by kernel_rfl) (by kernel_rfl) ?_ ?_ (by assumption) ?_
  rotate_left 2
  · simp only [List.getElem?_toArray, List.getElem?_cons_succ, List.getElem?_cons_zero]; rfl
  · exact fun _ _ _ h => h
  · first
      | (refine Or.inr ⟨?_, ?_⟩ <;> rfl)
      | (refine Or.inl ⟨?_, ?_⟩; · rfl
         intro w hSw; (try dsimp only at hSw); go_simp; (try with_reducible rfl); done)
  try simp only [Act.put, List.setIfInBounds_toArray, List.set_cons_zero, List.set_cons_succ]
  refine wpAnyH_take (i := 4) (oi := ?_) (v := ?_) ?_ (by kernel_rfl) (by kernel_rfl) (by kernel_rfl) ?_ ?_ (by assumption) ?_
  rotate_left 2
  · simp only [List.getElem?_toArray, List.getElem?_cons_succ, List.getElem?_cons_zero]; rfl
  · exact fun _ _ _ h => h
  · first
      | (refine Or.inr ⟨?_, ?_⟩ <;> rfl)
      | (refine Or.inl ⟨?_, ?_⟩; · rfl
         intro w hSw; (try dsimp only at hSw); go_simp; (try with_reducible rfl); done)
  try simp only [Act.put, List.setIfInBounds_toArray, List.set_cons_zero, List.set_cons_succ]
  refine wpAnyH_take (i := 5) (oi := ?_) (v := ?_) ?_ (by kernel_rfl) (by kernel_rfl) (by kernel_rfl) ?_ ?_ (by assumption) ?_
  rotate_left 2
  · simp only [List.getElem?_toArray, List.getElem?_cons_succ, List.getElem?_cons_zero]; rfl
  · exact fun _ _ _ h => h
  · first
      | (refine Or.inr ⟨?_, ?_⟩ <;> rfl)
      | (refine Or.inl ⟨?_, ?_⟩; · rfl
         intro w hSw; (try dsimp only at hSw); go_simp; (try with_reducible rfl); done)
  try simp only [Act.put, List.setIfInBounds_toArray, List.set_cons_zero, List.set_cons_succ]
  refine wpAnyH_take (i := 6) (oi := ?_) (v := ?_) ?_ (by kernel_rfl) (by kernel_rfl) (by kernel_rfl) ?_ ?_ (by assumption) ?_
  rotate_left 2
  · simp only [List.getElem?_toArray, List.getElem?_cons_succ, List.getElem?_cons_zero]; rfl
  · exact fun _ _ _ h => h
  · first
      | (refine Or.inr ⟨?_, ?_⟩ <;> rfl)
      | (refine Or.inl ⟨?_, ?_⟩; · rfl
         intro w hSw; (try dsimp only at hSw); go_simp; (try with_reducible rfl); done)
  try simp only [Act.put, List.setIfInBounds_toArray, List.set_cons_zero, List.set_cons_succ]
  refine wpAnyH_take (i := 7) (oi := ?_) (v := ?_) ?_ (by kernel_rfl) (by kernel_rfl) (by kernel_rfl) ?_ ?_ (by assumption) ?_
  rotate_left 2
  · simp only [List.getElem?_toArray, List.getElem?_cons_succ, List.getElem?_cons_zero]; rfl
  · exact fun _ _ _ h => h
  · first
      | (refine Or.inr ⟨?_, ?_⟩ <;> rfl)
      | (refine Or.inl ⟨?_, ?_⟩; · rfl
         intro w hSw; (try dsimp only at hSw); go_simp; (try with_reducible rfl); done)
  try simp only [Act.put, List.setIfInBounds_toArray, List.set_cons_zero, List.set_cons_succ]
  have HMs := Lib.hid ((HMd.out.below (Below.refl _ wc).drew rfl hB3).setBk (by omega) hB1 k a b c)
  have HXs : Hid (Bx ((((wc.drew).setCell ⟨gb, k * 3, none⟩ (.int .i64 a)).setCell ⟨gb, k * 3 + 1, none⟩ (.bool b)).setCell ⟨gb, k * 3 + 2, none⟩ (.bool c)) b5 76 #[.int .i64 a, .bool b, .bool c]) := ((HXd.out.drew.setOther (by dsimp only; omega) _).setOther (by dsimp only; omega) _).setOther (by dsimp only; omega) _
  refine wpAnyH_ready (rs := [8]) (by kernel_rfl) (by simp) ?_
  refine AllReadyH.cons (o := ?_) ?_ (fun K hK => ?_) AllReadyH.nil
  rotate_left 1
  · simp only [List.getElem?_toArray, List.getElem?_cons_succ, List.getElem?_cons_zero]; rfl
  go_simp
  refine hK.out _ _ ?_ (fun hHeld => ?_)
  · try dsimp only
    exact ⟨HMs.out.mb.cell 0, HMs.out.rw.box.cell 0, HXs.out.cell 0, HXs.out.cell 1, HXs.out.cell 2⟩
  clear hK K
  try simp only [Act.put, List.setIfInBounds_toArray, List.set_cons_zero, List.set_cons_succ]
  refine wpAnyH_done (by kernel_rfl) ?_ _
  go_wp2_with fail
  go_ret
  exact MvR.yes (by rw [HT.out]; exact HMs.out.rw) HMs.out.bl HYES.out
end Go.Proofs.YtlkdmpfifpkpaaaGreatDoor
namespace Go.Proofs.YtlkdmpfifpkpaaaGreatDoor
open Go.RowKit

/-- the letters of a section that can come next -/
def mvLt (x : Ln) (k : Nat) : List UInt8 := nxT (stI (x.N k) (x.I k) (x.O k)) 7
/-- such a letter is passed over: no train waits -/
def mvSk (x : Ln) (k : Nat) (c : UInt8) : Bool := decide (c = 101) && decide (cntA x.T (2 * k) x.m = 0)
/-- the moves of a section by its first i letters -/
def mvI (x : Ln) (k i : Nat) : List (Int × ByteArray) := (((mvLt x k).take i).filter (fun c => !mvSk x k c)).map fun c => ((k : Int), chr c)
def mvK (x : Ln) (k : Nat) : List (Int × ByteArray) := mvI x k (mvLt x k).length
def mvU (x : Ln) (k : Nat) : List (Int × ByteArray) := (List.range k).flatMap (mvK x)
def mvsL (x : Ln) : List (Int × ByteArray) := mvU x x.n
attribute [local go_sem] Oper.semAt_some
end Go.Proofs.YtlkdmpfifpkpaaaGreatDoor
namespace Go.Proofs.YtlkdmpfifpkpaaaGreatDoor
open Go.RowKit

/-- the empty line -/
def nilLn : Value := .agg #[.slice none 0 0, .slice none 0 0]
/-- a line handed back, or none -/
def LrR (o : Option Ln) (w : World) (e : Ending) (w' : World) : Prop :=
  Below w.heap.size w w' ∧ ((o = none ∧ e = .returned (.tuple #[nilLn, .bool false])) ∨ (∃ y v, o = some y ∧ e = .returned (.tuple #[v, .bool true]) ∧ LnO w.heap.size w' v y))
theorem RwN.lt {B : Nat} {w : World} {s : Value} {x : Ln} (h : RwN B w s x) : ∃ r gb cb gt ct, s = .pointer (some ⟨r, 0, none⟩) ∧ RwC w r gb cb gt ct x ∧ B ≤ r ∧ B ≤ gb ∧ B ≤ gt := h
/-- the boxes of LineRun -/
structure LrM (w wr : World) (r gb cb gt ct : Nat) (y : Ln) : Prop where
  rw : RwC wr r gb cb gt ct y
  res : Bx wr (w.heap.size + 1) 31 #[.slice none 0 0, .slice none 0 0]
  bl : Below w.heap.size w wr
  h1 : w.heap.size + 2 ≤ r
  h2 : w.heap.size + 2 ≤ gb
  h3 : w.heap.size + 2 ≤ gt
theorem LrM.below {w wr w' : World} {r gb cb gt ct D : Nat} {y : Ln} (h : LrM w wr r gb cb gt ct y) (hb : Below D wr w') (hD : D = wr.heap.size) : LrM w w' r gb cb gt ct y := by
  subst hD
  exact ⟨h.rw.below hb (Nat.le_refl _), h.res.below hb h.res.lt, h.bl.trans (hb.mono h.bl.size), h.h1, h.h2, h.h3⟩
theorem LrM.step {w wr w' : World} {r gb cb gt ct : Nat} {y z : Ln} (h : LrM w wr r gb cb gt ct y) (hr : RwC w' r gb cb gt ct z) (hb : Below (w.heap.size + 2) wr w') : LrM w w' r gb cb gt ct z :=
  ⟨hr, h.res.below hb (by omega), h.bl.trans (hb.mono (by omega)), h.h1, h.h2, h.h3⟩
theorem LnO.setOther {B : Nat} {w : World} {v : Value} {x : Ln} (h : LnO B w v x) {b o : Nat} (hb : b < B) (u : Value) : LnO B (w.setCell ⟨b, o, none⟩ u) v x := by
  obtain ⟨g1, c1, g2, c2, e, h1, h2, h3, h4, h5⟩ := h
  exact ⟨g1, c1, g2, c2, e, h1.setOther (by dsimp only; omega) _, h2.setOther (by dsimp only; omega) _, h3, h4, h5⟩
end Go.Proofs.YtlkdmpfifpkpaaaGreatDoor
namespace Go.Proofs.YtlkdmpfifpkpaaaGreatDoor
open Go.RowKit

/-- the boxes of the reference's LineValid -/
structure VdM (w wr : World) (v1 v2 : Value) : Prop where
  box : Bx wr w.heap.size 31 #[v1, v2]
  bl : Below w.heap.size w wr
theorem VdM.below {w wr w' : World} {v1 v2 : Value} {D : Nat} (h : VdM w wr v1 v2) (hb : Below D wr w') (hD : D = wr.heap.size) : VdM w w' v1 v2 := by
  subst hD
  exact ⟨h.box.below hb h.box.lt, h.bl.trans (hb.mono h.bl.size)⟩
theorem BkC.keep {w w' : World} {b off n : Nat} {N : Nat → Int} {I O : Nat → Bool} (h : BkC w b off n N I O) (hb : Below w.heap.size w w') : BkC w' b off n N I O := fun k hk => by
  obtain ⟨h0, h1, h2⟩ := h k hk
  have hlt : b < w.heap.size := World.block_lt_of_cell? w ⟨b, off + k * 3, none⟩ h0
  exact ⟨by rw [hb.cell (p := ⟨b, off + k * 3, none⟩) hlt]; exact h0, by rw [hb.cell (p := ⟨b, off + k * 3 + 1, none⟩) hlt]; exact h1, by rw [hb.cell (p := ⟨b, off + k * 3 + 2, none⟩) hlt]; exact h2⟩
end Go.Proofs.YtlkdmpfifpkpaaaGreatDoor
namespace Go.Proofs.YtlkdmpfifpkpaaaGreatDoor
open Go.RowKit

/-- a copy of a line in new memory, in a box of its own -/
def CpC (w : World) (z : Nat) (x : Ln) (s8 : Value) (wx : World) : Prop :=
  ∃ b8 g1 c1 g2 c2, s8 = .pointer (some ⟨b8, 0, none⟩) ∧ Bx wx b8 31 #[.slice (some ⟨g1, 0, none⟩) x.n c1, .slice (some ⟨g2, 0, none⟩) x.m c2] ∧ Own wx g1 c1 x.n 3 76 (bkF x.N x.I x.O) ∧ Own wx g2 c2 x.m 1 3 (fun i => .int .i64 (x.T i)) ∧
    z ≤ b8 ∧ z ≤ g1 ∧ z ≤ g2 ∧ b8 ≠ g1 ∧ b8 ≠ g2 ∧ g1 ≠ g2 ∧ Below z w wx
theorem CpC.bl {wb wx : World} {z : Nat} {x : Ln} {s : Value} (h : CpC wb z x s wx) : Below z wb wx := by
  obtain ⟨_, _, _, _, _, _, _, _, _, _, _, _, _, _, _, hb⟩ := h
  exact hb
structure CpF (wb wr : World) (x : Ln) (s1 s2 : Option (Nat × Nat × Nat)) (s3 : Option Nat) : Prop where
  r1 : ∀ g c n, s1 = some (g, c, n) → Own wr g c n 3 76 (bkF x.N x.I x.O) ∧ wb.heap.size ≤ g
  r2 : ∀ g c n, s2 = some (g, c, n) → Own wr g c n 1 3 (fun i => .int .i64 (x.T i)) ∧ wb.heap.size ≤ g
  r3 : ∀ b, s3 = some b → Bx wr b 31 #[.slice none 0 0, .slice none 0 0] ∧ wb.heap.size ≤ b
  d12 : ∀ g c n g' c' n', s1 = some (g, c, n) → s2 = some (g', c', n') → g ≠ g'
  d13 : ∀ g c n b, s1 = some (g, c, n) → s3 = some b → g ≠ b
  d23 : ∀ g c n b, s2 = some (g, c, n) → s3 = some b → g ≠ b
  bl : Below wb.heap.size wb wr
theorem CpF.bx {wb wr : World} {x : Ln} {s1 s2 : Option (Nat × Nat × Nat)} {b : Nat} (h : CpF wb wr x s1 s2 (some b)) : Bx wr b 31 #[.slice none 0 0, .slice none 0 0] := (h.r3 _ rfl).1
end Go.Proofs.YtlkdmpfifpkpaaaGreatDoor
namespace Go.Proofs.YtlkdmpfifpkpaaaGreatDoor
open Go.RowKit

/-- the boxes of the reference's step -/
structure StM (w wr : World) (v1 v2 : Value) (s : Int) (l : ByteArray) : Prop where
  arg : Bx wr w.heap.size 31 #[v1, v2]
  mb : Bx wr (w.heap.size + 1) 94 #[.int .i64 s, .string l]
  res : Bx wr (w.heap.size + 1 + 1) 31 #[.slice none 0 0, .slice none 0 0]
  bl : Below w.heap.size w wr
theorem StM.below {w wr w' : World} {v1 v2 : Value} {s : Int} {l : ByteArray} {D : Nat} (h : StM w wr v1 v2 s l) (hb : Below D wr w') (hD : w.heap.size + 3 ≤ D) : StM w w' v1 v2 s l :=
  ⟨h.arg.below hb (by omega), h.mb.below hb (by omega), h.res.below hb (by omega), h.bl.trans (hb.mono (by omega))⟩
theorem StM.sz {w wr : World} {v1 v2 : Value} {s : Int} {l : ByteArray} (h : StM w wr v1 v2 s l) : w.heap.size + 3 ≤ wr.heap.size := by
  have := h.res.lt; omega
/-- behind the copy -/
structure SfM (w wr : World) (v1 v2 : Value) (s : Int) (l : ByteArray) (b8 g1 c1 g2 c2 : Nat) (y : Ln) : Prop where
  st : StM w wr v1 v2 s l
  box : Bx wr b8 31 #[.slice (some ⟨g1, 0, none⟩) y.n c1, .slice (some ⟨g2, 0, none⟩) y.m c2]
  bs : Own wr g1 c1 y.n 3 76 (bkF y.N y.I y.O)
  ts : Own wr g2 c2 y.m 1 3 (fun i => .int .i64 (y.T i))
  z8 : w.heap.size + 3 ≤ b8
  z1 : w.heap.size + 3 ≤ g1
  z2 : w.heap.size + 3 ≤ g2
  d1 : b8 ≠ g1
  d2 : b8 ≠ g2
  d3 : g1 ≠ g2
theorem SfM.bl {w wr : World} {v1 v2 : Value} {s : Int} {l : ByteArray} {b8 g1 c1 g2 c2 : Nat} {y : Ln} (h : SfM w wr v1 v2 s l b8 g1 c1 g2 c2 y) {k : Nat} (hk : k < y.n) : wr.cell? ⟨g1, k * 3, none⟩ = some (.int .i64 (y.N k)) ∧ wr.cell? ⟨g1, k * 3 + 1, none⟩ = some (.bool (y.I k)) ∧ wr.cell? ⟨g1, k * 3 + 2, none⟩ = some (.bool (y.O k)) := by
  have := (BkC.of_own h.bs).at k hk
  simpa using this
theorem SfM.below {w wr w' : World} {v1 v2 : Value} {s : Int} {l : ByteArray} {b8 g1 c1 g2 c2 : Nat} {y : Ln} (h : SfM w wr v1 v2 s l b8 g1 c1 g2 c2 y) (hb : Below wr.heap.size wr w') : SfM w w' v1 v2 s l b8 g1 c1 g2 c2 y :=
  ⟨h.st.below hb h.st.sz, h.box.below hb h.box.lt, h.bs.below hb h.bs.lt, h.ts.below hb h.ts.lt, h.z8, h.z1, h.z2, h.d1, h.d2, h.d3⟩
theorem StM.setOther {w wr : World} {v1 v2 : Value} {s : Int} {l : ByteArray} (h : StM w wr v1 v2 s l) {b o : Nat} (hb : w.heap.size + 3 ≤ b) (v : Value) : StM w (wr.setCell ⟨b, o, none⟩ v) v1 v2 s l :=
  ⟨h.arg.setOther (by dsimp only; omega) _, h.mb.setOther (by dsimp only; omega) _, h.res.setOther (by dsimp only; omega) _, h.bl.setCell (p := ⟨b, o, none⟩) (by dsimp only; omega) _⟩
theorem SfM.setBk {w wr : World} {v1 v2 : Value} {s : Int} {l : ByteArray} {b8 g1 c1 g2 c2 : Nat} {y : Ln} (h : SfM w wr v1 v2 s l b8 g1 c1 g2 c2 y) (k : Nat) (a : Int) (b c : Bool) :
    SfM w (((wr.setCell ⟨g1, k * 3, none⟩ (.int .i64 a)).setCell ⟨g1, k * 3 + 1, none⟩ (.bool b)).setCell ⟨g1, k * 3 + 2, none⟩ (.bool c)) v1 v2 s l b8 g1 c1 g2 c2 { y with N := upd y.N k a, I := upd y.I k b, O := upd y.O k c } := by
  have d1 := h.d1
  have d3 := h.d3
  exact ⟨((h.st.setOther h.z1 _).setOther h.z1 _).setOther h.z1 _, ((h.box.setOther (by dsimp only; omega) _).setOther (by dsimp only; omega) _).setOther (by dsimp only; omega) _, h.bs.setBk k a b c, ((h.ts.setOther (by dsimp only; omega) _).setOther (by dsimp only; omega) _).setOther (by dsimp only; omega) _, h.z8, h.z1, h.z2, h.d1, h.d2, h.d3⟩
theorem SfM.setTr {w wr : World} {v1 v2 : Value} {s : Int} {l : ByteArray} {b8 g1 c1 g2 c2 : Nat} {y : Ln} (h : SfM w wr v1 v2 s l b8 g1 c1 g2 c2 y) (j : Nat) (a : Int) :
    SfM w (wr.setCell ⟨g2, j, none⟩ (.int .i64 a)) v1 v2 s l b8 g1 c1 g2 c2 { y with T := upd y.T j a } := by
  have d2 := h.d2
  have d3 := h.d3
  exact ⟨h.st.setOther h.z2 _, h.box.setOther (by dsimp only; omega) _, h.bs.setOther (by dsimp only; omega) _, h.ts.setInt j a, h.z8, h.z1, h.z2, h.d1, h.d2, h.d3⟩
/-- the result box filled -/
theorem SfM.done {w wr : World} {v1 v2 : Value} {s : Int} {l : ByteArray} {b8 g1 c1 g2 c2 : Nat} {y : Ln} (h : SfM w wr v1 v2 s l b8 g1 c1 g2 c2 y) (u0 u1 : Value) :
    LnO w.heap.size ((wr.setCell ⟨w.heap.size + 1 + 1, 0, none⟩ u0).setCell ⟨w.heap.size + 1 + 1, 1, none⟩ u1) (.agg #[.slice (some ⟨g1, 0, none⟩) y.n c1, .slice (some ⟨g2, 0, none⟩) y.m c2]) y ∧ Below w.heap.size w ((wr.setCell ⟨w.heap.size + 1 + 1, 0, none⟩ u0).setCell ⟨w.heap.size + 1 + 1, 1, none⟩ u1) := by
  have z1 := h.z1
  have z2 := h.z2
  exact ⟨⟨g1, c1, g2, c2, rfl, (h.bs.setOther (by dsimp only; omega) _).setOther (by dsimp only; omega) _, (h.ts.setOther (by dsimp only; omega) _).setOther (by dsimp only; omega) _, h.d3, by omega, by omega⟩, (h.st.bl.setCell (p := ⟨w.heap.size + 1 + 1, 0, none⟩) (by dsimp only; omega) _).setCell (p := ⟨w.heap.size + 1 + 1, 1, none⟩) (by dsimp only; omega) _⟩
end Go.Proofs.YtlkdmpfifpkpaaaGreatDoor
namespace Go.Proofs.YtlkdmpfifpkpaaaGreatDoor
open Go.RowKit

/-- the boxes of the reference's LineRun: the argument, the result, the line so far -/
structure SrML (w wr : World) (v1 v2 : Value) (b6 : Nat) (va vb : Value) : Prop where
  arg : Bx wr w.heap.size 31 #[v1, v2]
  res : Bx wr (w.heap.size + 1) 31 #[.slice none 0 0, .slice none 0 0]
  out : Bx wr b6 31 #[va, vb]
  bl : Below w.heap.size w wr
  z6 : w.heap.size + 2 ≤ b6
/-- a line in memory beyond z -/
def LnZ (z : Nat) (w : World) (va vb : Value) (y : Ln) : Prop :=
  ∃ g1 c1 g2 c2, va = .slice (some ⟨g1, 0, none⟩) y.n c1 ∧ vb = .slice (some ⟨g2, 0, none⟩) y.m c2 ∧ Own w g1 c1 y.n 3 76 (bkF y.N y.I y.O) ∧ Own w g2 c2 y.m 1 3 (fun i => .int .i64 (y.T i)) ∧ g1 ≠ g2 ∧ z ≤ g1 ∧ z ≤ g2
theorem LnZ.below {z D : Nat} {w w' : World} {va vb : Value} {y : Ln} (h : LnZ z w va vb y) (hb : Below D w w') (hD : w.heap.size ≤ D) : LnZ z w' va vb y := by
  obtain ⟨g1, c1, g2, c2, e1, e2, h1, h2, h3⟩ := h
  exact ⟨g1, c1, g2, c2, e1, e2, h1.below hb (Nat.lt_of_lt_of_le h1.lt hD), h2.below hb (Nat.lt_of_lt_of_le h2.lt hD), h3⟩
theorem LnZ.setOther {z : Nat} {w : World} {va vb : Value} {y : Ln} (h : LnZ z w va vb y) {b o : Nat} (hb : ∀ g1 c1 n, va = .slice (some ⟨g1, 0, none⟩) n c1 → b ≠ g1) (hb' : ∀ g2 c2 n, vb = .slice (some ⟨g2, 0, none⟩) n c2 → b ≠ g2) (u : Value) : LnZ z (w.setCell ⟨b, o, none⟩ u) va vb y := by
  obtain ⟨g1, c1, g2, c2, rfl, rfl, h1, h2, h3⟩ := h
  exact ⟨g1, c1, g2, c2, rfl, rfl, h1.setOther (fun e => hb _ _ _ rfl e.symm) _, h2.setOther (fun e => hb' _ _ _ rfl e.symm) _, h3⟩
theorem SrML.below {w wr w' : World} {v1 v2 va vb : Value} {b6 D : Nat} (h : SrML w wr v1 v2 b6 va vb) (hb : Below D wr w') (hD : wr.heap.size ≤ D) : SrML w w' v1 v2 b6 va vb :=
  ⟨h.arg.below hb (Nat.lt_of_lt_of_le h.arg.lt hD), h.res.below hb (Nat.lt_of_lt_of_le h.res.lt hD), h.out.below hb (Nat.lt_of_lt_of_le h.out.lt hD), h.bl.trans (hb.mono (Nat.le_trans h.bl.size hD)), h.z6⟩
theorem SrML.setOther {w wr : World} {v1 v2 va vb : Value} {b6 b o : Nat} (h : SrML w wr v1 v2 b6 va vb) (hb : b ≠ b6) (hz : w.heap.size + 2 ≤ b) (u : Value) : SrML w (wr.setCell ⟨b, o, none⟩ u) v1 v2 b6 va vb :=
  ⟨h.arg.setOther (by dsimp only; omega) _, h.res.setOther (by dsimp only; omega) _, h.out.setOther (fun e => hb e.symm) _, h.bl.setCell (p := ⟨b, o, none⟩) (by dsimp only; omega) _, h.z6⟩
theorem LnZ.mono {z z' : Nat} {w : World} {va vb : Value} {y : Ln} (h : LnZ z w va vb y) (hz : z' ≤ z) : LnZ z' w va vb y := by
  obtain ⟨g1, c1, g2, c2, e1, e2, h1, h2, h3, h4, h5⟩ := h
  exact ⟨g1, c1, g2, c2, e1, e2, h1, h2, h3, by omega, by omega⟩
theorem LnZ.lts {z : Nat} {w : World} {p1 n1 c1 p2 n2 c2 : Nat} {y : Ln} (h : LnZ z w (.slice (some ⟨p1, 0, none⟩) n1 c1) (.slice (some ⟨p2, 0, none⟩) n2 c2) y) : p1 < w.heap.size ∧ p2 < w.heap.size := by
  obtain ⟨g1, c1, g2, c2, e1, e2, h1, h2, h3, h4, h5⟩ := h
  cases e1
  cases e2
  exact ⟨h1.lt, h2.lt⟩
theorem LnZ.done {w wr : World} {p1 c1 p2 c2 : Nat} {y : Ln} (h : LnZ (w.heap.size + 2) wr (.slice (some ⟨p1, 0, none⟩) y.n c1) (.slice (some ⟨p2, 0, none⟩) y.m c2) y) (u0 u1 : Value) :
    LnO w.heap.size ((wr.setCell ⟨w.heap.size + 1, 0, none⟩ u0).setCell ⟨w.heap.size + 1, 1, none⟩ u1) (.agg #[.slice (some ⟨p1, 0, none⟩) y.n c1, .slice (some ⟨p2, 0, none⟩) y.m c2]) y := by
  obtain ⟨g1, c1, g2, c2, e1, e2, h1, h2, h3, h4, h5⟩ := h
  cases e1
  cases e2
  exact ⟨_, _, _, _, rfl, (h1.setOther (by dsimp only; omega) _).setOther (by dsimp only; omega) _, (h2.setOther (by dsimp only; omega) _).setOther (by dsimp only; omega) _, h3, by omega, by omega⟩
end Go.Proofs.YtlkdmpfifpkpaaaGreatDoor
