/-
  Parts of the proof: Mo Ma. No condition.
-/
import Derived.RangeFuncNested
import Derived.RangeFuncBound
import Derived.RangeFuncCalls
import Derived.RangeFuncLeaves
import Derived.RangeFuncBox
import Derived.Shelf.Abstract
import Derived.OwnWalkIn
import Derived.TacticsInMore
import Derived.LoopNIn
import Derived.LoopIn
import Derived.Test.YtlkdmpfifpkpaaaGreatDoorV11
namespace Go.Proofs.YtlkdmpfifpkpaaaGreatDoor
open Go.RowKit
theorem bkF_upd {N : Nat → Int} {I O : Nat → Bool} {k : Nat} {a : Int} {b c : Bool} (i : Nat) :
    (if i = k * 3 + 2 then Value.bool c else if i = k * 3 + 1 then Value.bool b else if i = k * 3 then Value.int .i64 a else bkF N I O i) = bkF (upd N k a) (upd I k b) (upd O k c) i := by
  unfold bkF upd
  by_cases e2 : i = k * 3 + 2
  ·subst e2
   rw [if_pos rfl, if_neg (by omega), if_neg (by omega), if_pos (by omega)]
  rw [if_neg e2]
  by_cases e1 : i = k * 3 + 1
  ·subst e1
   rw [if_pos rfl, if_neg (by omega), if_pos (by omega), if_pos (by omega)]
  rw [if_neg e1]
  by_cases e0 : i = k * 3
  ·subst e0
   rw [if_pos rfl, if_pos (by omega), if_pos (by omega)]
  rw [if_neg e0]
  have h3 : i % 3 = 0 ∨ i % 3 = 1 ∨ i % 3 = 2 := by omega
  rcases h3 with h | h | h
  ·rw [if_pos h, if_pos h, if_neg (by omega)]
  ·rw [if_neg (by omega), if_pos h, if_neg (by omega), if_pos h, if_neg (by omega)]
  ·rw [if_neg (by omega), if_neg (by omega), if_neg (by omega), if_neg (by omega), if_neg (by omega)]
theorem Own.setBk {w : World} {g cap n : Nat} {N : Nat → Int} {I O : Nat → Bool} {t : TypeId} (h : Own w g cap n 3 t (bkF N I O)) (k : Nat) (a : Int) (b c : Bool) :
    Own (((w.setCell ⟨g, k * 3, none⟩ (.int .i64 a)).setCell ⟨g, k * 3 + 1, none⟩ (.bool b)).setCell ⟨g, k * 3 + 2, none⟩ (.bool c)) g cap n 3 t (bkF (upd N k a) (upd I k b) (upd O k c)) :=
  (((h.set (k * 3) _).set (k * 3 + 1) _).set (k * 3 + 2) _).congr fun i _ => bkF_upd i
theorem Own.setInt {w : World} {g cap n : Nat} {T : Nat → Int} {t : TypeId} (h : Own w g cap n 1 t (fun i => .int .i64 (T i))) (k : Nat) (a : Int) :
    Own (w.setCell ⟨g, k, none⟩ (.int .i64 a)) g cap n 1 t (fun i => .int .i64 (upd T k a i)) :=
  (h.set k _).congr fun i _ => by unfold upd; split <;> rfl
theorem RwC.drew {w : World} {r gb cb gt ct : Nat} {x : Ln} (h : RwC w r gb cb gt ct x) : RwC w.drew r gb cb gt ct x := h.below (Below.refl _ w).drew (Nat.le_refl _)
structure MvM (B : Nat) (w wr : World) (r gb cb gt ct : Nat) (x : Ln) (s : Int) (l : ByteArray) : Prop where
  rw : RwC wr r gb cb gt ct x
  mb : Bx wr w.heap.size 94 #[.int .i64 s, .string l]
  bl : Below B w wr
theorem MvM.below {B D : Nat} {w wr w' : World} {r gb cb gt ct : Nat} {x : Ln} {s : Int} {l : ByteArray} (h : MvM B w wr r gb cb gt ct x s l) (hb : Below D wr w') (hD : D = wr.heap.size) (hB : B ≤ w.heap.size) : MvM B w w' r gb cb gt ct x s l := by
 subst hD
 exact ⟨h.rw.below hb (Nat.le_refl _), h.mb.below hb h.mb.lt, h.bl.trans (hb.mono (Nat.le_trans hB (h.bl.mono (Nat.le_refl _)).size))⟩
theorem MvM.setOther {B : Nat} {w wr : World} {r gb cb gt ct : Nat} {x : Ln} {s : Int} {l : ByteArray} (h : MvM B w wr r gb cb gt ct x s l) {b o : Nat} (hb : wr.heap.size ≤ b ∨ (b ≠ r ∧ b ≠ gb ∧ b ≠ gt ∧ b ≠ w.heap.size)) (hB : B ≤ b) (v : Value) : MvM B w (wr.setCell ⟨b, o, none⟩ v) r gb cb gt ct x s l := by
 have l1 := h.rw.box.lt
 have l2 := h.rw.bs.lt
 have l3 := h.rw.ts.lt
 have l4 := h.mb.lt
 exact ⟨⟨h.rw.box.setOther (by dsimp only; omega) _, h.rw.bs.setOther (by dsimp only; omega) _, h.rw.ts.setOther (by dsimp only; omega) _, h.rw.d1, h.rw.d2, h.rw.d3⟩, h.mb.setOther (by dsimp only; omega) _, h.bl.setCell hB _⟩
theorem bx3 {w : World} {b : Nat} {t : TypeId} {v0 v1 v2 : Value} (h : Bx w b t #[v0, v1, v2]) (u0 u1 u2 : Value) : Bx (((w.setCell ⟨b, 0, none⟩ u0).setCell ⟨b, 1, none⟩ u1).setCell ⟨b, 2, none⟩ u2) b t #[u0, u1, u2] := by
 have := ((h.set 0 u0).set 1 u1).set 2 u2
 simpa using this
theorem MvM.setBk {B : Nat} {w wr : World} {r gb cb gt ct : Nat} {x : Ln} {s : Int} {l : ByteArray} (h : MvM B w wr r gb cb gt ct x s l) (hz : w.heap.size ≠ gb) (hB : B ≤ gb) (k : Nat) (a : Int) (b c : Bool) :
    MvM B w (((wr.setCell ⟨gb, k * 3, none⟩ (.int .i64 a)).setCell ⟨gb, k * 3 + 1, none⟩ (.bool b)).setCell ⟨gb, k * 3 + 2, none⟩ (.bool c)) r gb cb gt ct { x with N := upd x.N k a, I := upd x.I k b, O := upd x.O k c } s l := by
  have d1 := h.rw.d1
  have d2 := h.rw.d2
  exact ⟨⟨((h.rw.box.setOther (by dsimp only; omega) _).setOther (by dsimp only; omega) _).setOther (by dsimp only; omega) _, h.rw.bs.setBk k a b c, ((h.rw.ts.setOther (by dsimp only; omega) _).setOther (by dsimp only; omega) _).setOther (by dsimp only; omega) _, h.rw.d1, h.rw.d2, h.rw.d3⟩,
    ((h.mb.setOther (by dsimp only; omega) _).setOther (by dsimp only; omega) _).setOther (by dsimp only; omega) _, ((h.bl.setCell hB _).setCell hB _).setCell hB _⟩
theorem MvM.setTr {B : Nat} {w wr : World} {r gb cb gt ct : Nat} {x : Ln} {s : Int} {l : ByteArray} (h : MvM B w wr r gb cb gt ct x s l) (hz : w.heap.size ≠ gt) (hB : B ≤ gt) (j : Nat) (a : Int) :
    MvM B w (wr.setCell ⟨gt, j, none⟩ (.int .i64 a)) r gb cb gt ct { x with T := upd x.T j a } s l := by
  have d1 := h.rw.d1
  have d3 := h.rw.d3
  exact ⟨⟨h.rw.box.setOther (by dsimp only; omega) _, h.rw.bs.setOther (by dsimp only; omega) _, h.rw.ts.setInt j a, h.rw.d1, h.rw.d2, h.rw.d3⟩, h.mb.setOther (by dsimp only; omega) _, h.bl.setCell hB _⟩
theorem tl_one {l : ByteArray} {c : UInt8} (h : ¬ l = ⟨#[c]⟩) : (l.toList == [c]) = false := by
 rw [ByteArray.toList_eq]
 simp only [beq_eq_false_iff_ne, ne_eq]
 intro e
 apply h
 cases l with
 | mk d =>
  have : d = #[c] := by
   apply Array.ext'
   simpa using e
  rw [this]
theorem tl_some {l : ByteArray} {c : UInt8} (h : l = ⟨#[c]⟩) : (l.toList == [c]) = true := by
 rw [ByteArray.toList_eq, h]
 simp
def MvC (B : Nat) (w : World) (z r gb cb gt ct : Nat) (x : Ln) (s : Int) (l : ByteArray) (s5 s6 : Value) (wx : World) : Prop :=
 ∃ b5 a b c, s5 = .pointer (some ⟨b5, 0, none⟩) ∧ s6 = .bool (decide (mvJ x s l < 5)) ∧ MvM B w wx r gb cb gt ct x s l ∧ Bx wx b5 76 #[.int .i64 a, .bool b, .bool c] ∧ z ≤ b5 ∧ bsV (mvJ x s l) = .agg #[.int .i64 a, .bool b, .bool c]
def MvR (B : Nat) (r gb cb gt ct : Nat) (x : Ln) (s : Int) (l : ByteArray) (w : World) (e : Ending) (w' : World) : Prop :=
 e = .returned (.bool (mvOk x s l)) ∧ RwC w' r gb cb gt ct (if mvOk x s l = true then mvTo x s l else x) ∧ Below B w w'
theorem MvR.no {B : Nat} {w wr : World} {r gb cb gt ct : Nat} {x : Ln} {s : Int} {l : ByteArray} (h : RwC wr r gb cb gt ct x) (hb : Below B w wr) (h0 : mvOk x s l = false) : MvR B r gb cb gt ct x s l w (.returned (.bool false)) wr :=
 ⟨by rw [h0], by rw [h0]; exact h, hb⟩
theorem MvR.yes {B : Nat} {w wr : World} {r gb cb gt ct : Nat} {x : Ln} {s : Int} {l : ByteArray} (h : RwC wr r gb cb gt ct (mvTo x s l)) (hb : Below B w wr) (h0 : mvOk x s l = true) : MvR B r gb cb gt ct x s l w (.returned (.bool true)) wr :=
 ⟨by rw [h0], by rw [h0]; exact h, hb⟩
theorem mvOk_out {x : Ln} {s : Int} {l : ByteArray} (h : ¬ (0 ≤ s ∧ s ≤ x.n - 1)) : mvOk x s l = false := by unfold mvOk; rw [inB_false.2 h, Bool.false_and]
theorem mvOk_st {x : Ln} {s : Int} {l : ByteArray} (h : ¬ mvJ x s l < 5) : mvOk x s l = false := by unfold mvOk; rw [decide_eq_false h, Bool.false_and, Bool.and_false]
theorem mvOk_tr {x : Ln} {s : Int} {l : ByteArray} (h1 : (eB l || lB l) = true) (h : ¬ fstA x.T (plI s l) x.m < x.m) : mvOk x s l = false := by unfold mvOk; rw [decide_eq_false h, h1]; simp
theorem mvOk_yes {x : Ln} {s : Int} {l : ByteArray} (h0 : 0 ≤ s ∧ s ≤ x.n - 1) (h1 : mvJ x s l < 5) (h2 : (eB l || lB l) = false ∨ fstA x.T (plI s l) x.m < x.m) : mvOk x s l = true := by
 unfold mvOk
 rw [inB_true.2 h0, decide_eq_true h1]
 rcases h2 with h | h
 ·simp [h]
 ·simp [h]
set_option linter.unusedSimpArgs false in
set_option maxHeartbeats 4000000 in
theorem move_any (B r gb cb gt ct : Nat) (x : Ln) (s : Int) (l : ByteArray) (w : World) (hn : x.n ≤ 1000000000000) (hm : x.m ≤ 1000000000000) (h : RwC w r gb cb gt ct x) (hB : B ≤ gb ∧ B ≤ gt ∧ B ≤ w.heap.size) :
    Calls Tryz.prog 142 #[.pointer (some ⟨r, 0, none⟩), .agg #[.int .i64 s, .string l]] w (MvR B r gb cb gt ct x s l w) := by
  have hbb : ∀ a, Below w.heap.size w (w.alloc a) := fun a => below_all _ _
  have HM0 : Hid (MvM B w (w.alloc (.cells #[.int .i64 s, .string l] 94)) r gb cb gt ct x s l) := ⟨h.below (hbb _) (Nat.le_refl _), Bx.new _ _ _, (hbb _).mono hB.2.2⟩
  have hrs := h.box.lt
  have hgb := h.bs.lt
  have hgt := h.ts.lt
  clear h hbb
  obtain ⟨hB1, hB2, hB3⟩ := hB
  go_enter Tryz.func142, Tryz.ntmps142
  go_wp2_with fail
  generalize hW0 : w.alloc (.cells #[.int .i64 s, .string l] 94) = W0 at *
  have hz0 : W0.heap.size = w.heap.size + 1 := by rw [← hW0]; simp
  clear hW0
  have hmc := HM0.out.mb.cell
  have hrc := HM0.out.rw.box.cell
  by_cases h0 : s < 0
  ·have HV := Lib.hid (mvOk_out (x := x) (s := s) (l := l) (by omega))
   refine wp_region_held_drew (S := (fun w' => w'.cell? ⟨w.heap.size, 0, none⟩ = some (.int .i64 s) ∧ w'.cell? ⟨r, 0, none⟩ = some (.slice (some ⟨gb, 0, none⟩) x.n cb))) (by kernel_rfl) ?_ (fun hHeld => ?_)
   ·try dsimp only
    go_keep
   refine tkR 0 ?_
   refine tkR 1 ?_
   refine tkR 2 ?_
   refine tkR 3 ?_
   refine tkR 4 ?_
   refine tkR 5 ?_
   refine tkR 6 ?_
   refine tkR 7 ?_
   refine tkR 8 ?_
   refine tkR 9 ?_
   refine tkR 10 ?_
   refine tkR 11 ?_
   refine tkR 12 ?_
   refine wpAnyH_done (by kernel_rfl) ?_ _
   go_wp2_with fail
   go_ret
   exact MvR.no HM0.out.rw.drew HM0.out.bl.drew HV.out
  by_cases h1 : (x.n : Int) ≤ s
  ·have HV := Lib.hid (mvOk_out (x := x) (s := s) (l := l) (by omega))
   refine wp_region_held_drew (S := (fun w' => w'.cell? ⟨w.heap.size, 0, none⟩ = some (.int .i64 s) ∧ w'.cell? ⟨r, 0, none⟩ = some (.slice (some ⟨gb, 0, none⟩) x.n cb))) (by kernel_rfl) ?_ (fun hHeld => ?_)
   ·try dsimp only
    go_keep
   refine tkR 0 ?_
   refine tkR 1 ?_
   refine tkR 2 ?_
   refine tkR 3 ?_
   refine tkR 4 ?_
   refine tkR 5 ?_
   refine tkR 6 ?_
   refine tkR 7 ?_
   refine tkR 8 ?_
   refine tkR 9 ?_
   refine tkR 10 ?_
   refine tkR 11 ?_
   refine tkR 12 ?_
   refine wpAnyH_done (by kernel_rfl) ?_ _
   go_wp2_with fail
   go_ret
   exact MvR.no HM0.out.rw.drew HM0.out.bl.drew HV.out
  obtain ⟨k, rfl⟩ := Int.eq_ofNat_of_zero_le (show 0 ≤ s by omega)
  have hk : k < x.n := by omega
  have hr0 : r ≠ w.heap.size := by omega
  have hkl : (0 : Int) ≤ (k : Int) ∧ (k : Int) ≤ x.n - 1 := by omega
  have HKL := Lib.hid hkl
  have HJ : Hid (mvJ x (k : Int) l = bsI (x.N k) (x.I k) (x.O k) l) := rfl
  clear hkl
  refine wp_region_held_drew (S := (fun w' => w'.cell? ⟨w.heap.size, 0, none⟩ = some (.int .i64 (k : Int)) ∧ w'.cell? ⟨r, 0, none⟩ = some (.slice (some ⟨gb, 0, none⟩) x.n cb))) (by kernel_rfl) ?_ (fun hHeld => ?_)
  ·try dsimp only
   go_keep
  refine tkR 0 ?_
  refine tkR 1 ?_
  refine tkR 2 ?_
  refine tkR 3 ?_
  refine tkR 4 ?_
  refine tkR 5 ?_
  refine tkR 6 ?_
  refine tkR 7 ?_
  refine tkR 8 ?_
  refine tkR 9 ?_
  refine tkR 10 ?_
  refine tkR 11 ?_
  refine tkR 12 ?_
  refine wpAnyH_done (by kernel_rfl) ?_ _
  go_wp2_with fail
  have HMd := Lib.hid (HM0.out.below (Below.refl _ W0).drew rfl hB3)
  have hzd : W0.drew.heap.size = w.heap.size + 1 := hz0
  clear hmc hrc HM0 hz0
  generalize W0.drew = W1 at *
  have HM0 := HMd
  clear HMd
  have hmc := HM0.out.mb.cell
  have hrc := HM0.out.rw.box.cell
  have hbc := HM0.out.rw.bl hk
  have hbv : ∃ a b c, bsV (mvJ x (k : Int) l) = .agg #[.int .i64 a, .bool b, .bool c] := by
   unfold bsV
   split
   ·exact ⟨_, _, _, rfl⟩
   ·exact ⟨_, _, _, rfl⟩
  obtain ⟨ba, bb, bc, hbv⟩ := hbv
  have HBV := Lib.hid hbv
  clear hbv
  have hrz : r < W1.heap.size ∧ gb < W1.heap.size ∧ gt < W1.heap.size ∧ w.heap.size < W1.heap.size := ⟨HM0.out.rw.box.lt, HM0.out.rw.bs.lt, HM0.out.rw.ts.lt, by omega⟩
  obtain ⟨z1, z2, z3, z4⟩ := hrz
  clear hzd
  have HST : Hid (∀ W, Calls Tryz.prog 161 #[.agg #[.int .i64 (x.N k), .bool (x.I k), .bool (x.O k)], .string l] W fun e w' => e = .returned (.tuple #[.agg #[.int .i64 ba, .bool bb, .bool bc], .bool (decide (mvJ x (k : Int) l < 5))]) ∧ Below W.heap.size W w') := fun W => by
   refine (implStep_any (x.N k) (x.I k) (x.O k) l W).mono fun e w' h => ?_
   obtain ⟨h1, h2⟩ := h
   rw [← HJ.out, HBV.out] at h1
   exact ⟨h1, h2⟩
  go_cut [5, 6] (MvC B w W1.heap.size r gb cb gt ct x (k : Int) l)
  case first =>
   refine wp_region_held_drew (S := (fun w' => w'.cell? ⟨w.heap.size, 0, none⟩ = some (.int .i64 (k : Int)) ∧ w'.cell? ⟨w.heap.size, 1, none⟩ = some (.string l) ∧ w'.cell? ⟨r, 0, none⟩ = some (.slice (some ⟨gb, 0, none⟩) x.n cb) ∧ w'.cell? ⟨gb, k * 3, none⟩ = some (.int .i64 (x.N k)) ∧ w'.cell? ⟨gb, k * 3 + 1, none⟩ = some (.bool (x.I k)) ∧ w'.cell? ⟨gb, k * 3 + 2, none⟩ = some (.bool (x.O k)))) (by kernel_rfl) ?_ (fun hHeld => ?_)
   ·try dsimp only
    go_keep
   refine tkR 0 ?_
   refine tkR 1 ?_
   refine tkR 2 ?_
   refine tkR 3 ?_
   refine tkR 4 ?_
   refine tkR 5 ?_
   refine tkR 6 ?_
   refine tkR 7 ?_
   refine tkR 8 ?_
   refine tkR 9 ?_
   refine wpAnyH_ready (rs := [10, 14]) (by kernel_rfl) (by simp) ?_
   refine c1R (fun K hK => ?_) ?_
   ·go_simp
    go_at_call 161
    go_must (refine Calls.mono (HST.out _) ?_)
    rintro e w1 ⟨rfl, hb1⟩
    have HM1 := Lib.hid (HM0.out.below (w' := w1) ((Below.refl _ W1).drew.trans hb1) rfl hB3)
    have hmc1 := HM1.out.mb.cell
    have hrc1 := HM1.out.rw.box.cell
    have hbc1 := HM1.out.rw.bl hk
    have hz1 : W1.heap.size ≤ w1.heap.size := hb1.size
    clear hb1 hbc hrc hmc
    refine oR hK ?_ (fun hHeld => ?_)
    ·try dsimp only
     go_keep
    clear hK K
    refine tkR 11 ?_
    refine tkR 12 ?_
    refine tkR 13 ?_
    refine r1R 14 (fun K hK => ?_)
    go_simp
    skip
    refine oR hK ?_ (fun hHeld => ?_)
    ·try dsimp only
     go_keep
    clear hK K
    have HMz : Hid (∀ a, MvM B w (w1.alloc a) r gb cb gt ct x (k : Int) l) := fun a => HM1.out.below ((Below.refl w1.heap.size w1).alloc (Nat.le_refl _) a) rfl hB3
    refine r1R 15 (fun K hK => ?_)
    go_simp
    skip
    refine oR hK ?_ (fun hHeld => ?_)
    ·try dsimp only
     go_keep
    clear hK K
    refine tkR 16 ?_
    refine wpAnyH_done (by kernel_rfl) ?_ _
    go_wp2_with fail
    go_meet
    exact ⟨w1.heap.size, ba, bb, bc, rfl, rfl, HMz.out _, Bx.new _ _ _, by omega, HBV.out⟩
   refine c1R (fun K hK => ?_) ?_
   ·go_simp
    skip
    refine oR hK ?_ (fun hHeld => ?_)
    ·try dsimp only
     go_keep
    clear hK K
    have HMa : Hid (∀ a, MvM B w (W1.drew.alloc a) r gb cb gt ct x (k : Int) l) := fun a => HM0.out.below (D := W1.heap.size) ((Below.refl _ W1).drew.alloc (Nat.le_refl _) a) rfl hB3
    refine r1R 10 (fun K hK => ?_)
    go_simp
    go_at_call 161
    go_must (refine Calls.mono (HST.out _) ?_)
    rintro e w1 ⟨rfl, hb1⟩
    have HM1 := Lib.hid ((HMa.out _).below (w' := w1) hb1 rfl hB3)
    have HX1 : Hid (Bx w1 W1.heap.size 76 #[.int .i64 0, .bool false, .bool false]) := (Bx.new W1.drew _ _).below hb1 (by simp)
    have hmc1 := HM1.out.mb.cell
    have hrc1 := HM1.out.rw.box.cell
    have hbc1 := HM1.out.rw.bl hk
    have hz1 : W1.heap.size + 1 ≤ w1.heap.size := by have := hb1.size; simpa using this
    clear hb1 hbc hrc hmc
    refine oR hK ?_ (fun hHeld => ?_)
    ·try dsimp only
     go_keep
    clear hK K
    refine tkR 11 ?_
    refine tkR 12 ?_
    refine tkR 13 ?_
    have hnx : W1.heap.size ≠ w.heap.size ∧ W1.heap.size ≠ r ∧ W1.heap.size ≠ gb ∧ W1.heap.size ≠ gt := by omega
    have HMs := Lib.hid (((HM1.out.setOther (b := W1.heap.size) (o := 0) (.inr (by omega)) (by omega) (.int .i64 ba)).setOther (b := W1.heap.size) (o := 1) (.inr (by omega)) (by omega) (.bool bb)).setOther (b := W1.heap.size) (o := 2) (.inr (by omega)) (by omega) (.bool bc))
    have hxc := HX1.out.cell
    have hxf := HX1.out.free
    refine r1R 15 (fun K hK => ?_)
    go_simp
    refine oR hK ?_ (fun hHeld => ?_)
    ·try dsimp only
     exact ⟨HMs.out.mb.cell 0, HMs.out.mb.cell 1, HMs.out.rw.box.cell 0, HMs.out.rw.bl hk⟩
    clear hK K
    refine tkR 16 ?_
    refine wpAnyH_done (by kernel_rfl) ?_ _
    go_wp2_with fail
    go_meet
    exact ⟨W1.heap.size, ba, bb, bc, rfl, rfl, HMs.out, bx3 HX1.out _ _ _, Nat.le_refl _, HBV.out⟩
   exact AllReadyH.nil
  case rest =>
  obtain ⟨b5, a, b, c, rfl, rfl, hmv, hx5, hz5, hbv⟩ := hcut
  have HM := Lib.hid hmv
  have HX := Lib.hid hx5
  clear hmc hrc hbc hmv hx5
  by_cases hj5 : ¬ mvJ x (k : Int) l < 5
  ·have HV := Lib.hid (mvOk_st hj5)
   have hd : decide (mvJ x (k : Int) l < 5) = false := decide_eq_false hj5
   rw [hd]
   clear hj5 hd
   go_wp2_with fail
   go_ret
   exact MvR.no HM.out.rw HM.out.bl HV.out
  replace hj5 := Decidable.not_not.1 hj5
  have hd : decide (mvJ x (k : Int) l < 5) = true := decide_eq_true hj5
  rw [hd]
  have HJ5 := Lib.hid hj5
  have HA : Hid ((stB (mvJ x (k : Int) l)).n = a ∧ (stB (mvJ x (k : Int) l)).i = b ∧ (stB (mvJ x (k : Int) l)).o = c) := by
   show _ ∧ _ ∧ _
   unfold bsV at hbv
   rw [if_pos hj5] at hbv
   unfold bkA at hbv
   simpa using hbv
  clear hd hj5 hbv
  have hmc := HM.out.mb.cell
  have hrc := HM.out.rw.box.cell
  have hxl := HX.out.lt
  have hml := HM.out.mb.lt
  have hne5 : b5 ≠ gb ∧ b5 ≠ gt ∧ b5 ≠ r ∧ b5 ≠ w.heap.size := by omega
  obtain ⟨hn1, hn2, hn3, hn4⟩ := hne5
  by_cases e1 : l = ⟨#[101]⟩
  ·have HELp : (eB l || lB l) = true ∧ plI (k : Int) l = 2 * (k : Int) := by
    have h : eB l = true := decide_eq_true e1
    exact ⟨by rw [h]; rfl, if_pos h⟩
   have t1 := tl_some e1
   clear e1
   have HEL : Hid ((eB l || lB l) = true ∧ plI (k : Int) l = (2 * (k : Int))) := HELp
   obtain ⟨j, hj⟩ : ∃ j, j = fstA x.T (2 * (k : Int)) x.m := ⟨_, rfl⟩
   have HIX : Hid (Calls Tryz.prog 162 #[.slice (some ⟨gt, 0, none⟩) x.m ct, .int .i64 (2 * (k : Int))] wc fun e w' => e = .returned (.int .i64 (if j < x.m then (j : Int) else -1)) ∧ wc = w') := by
    rw [hj]
    exact index_any gt 0 x.m ct x.T (2 * (k : Int)) wc hm HM.out.rw.ic
   by_cases hjm : ¬ j < x.m
   ·have HV : Hid (mvOk x (k : Int) l = false) := mvOk_tr HEL.out.1 (by rw [HEL.out.2, ← hj]; exact hjm)
    have HIF : Hid ((if j < x.m then (j : Int) else -1) = -1) := if_neg hjm
    clear hjm hj
    go_wp2_with fail
    refine HIX.out.mono ?_
    rintro e w' ⟨rfl, rfl⟩
    rw [HIF.out]
    go_wp2_with fail
    go_ret
    exact MvR.no HM.out.rw HM.out.bl HV.out
   replace hjm := Decidable.not_not.1 hjm
   have HYES : Hid (mvOk x (k : Int) l = true) := mvOk_yes HKL.out HJ5.out (.inr (by rw [HEL.out.2, ← hj]; exact hjm))
   have hTj : x.T j = (2 * (k : Int)) := by rw [hj]; exact fstA_at x.T _ x.m (by rw [← hj]; exact hjm)
   have HT : Hid (mvTo x (k : Int) l = { n := x.n, N := upd x.N k a, I := upd x.I k b, O := upd x.O k c, m := x.m, T := upd x.T j ((2 * (k : Int)) + 1) }) := by
    show _ = _
    obtain ⟨a1, a2, a3⟩ := HA.out
    unfold mvTo
    rw [if_pos HEL.out.1, HEL.out.2, ← hj, a1, a2, a3]
    rfl
   have hcj := HM.out.rw.tr hjm
   rw [hTj] at hcj
   have HIF : Hid ((if j < x.m then (j : Int) else -1) = j) := if_pos hjm
   clear hj hTj
   have hfj := HM.out.rw.ts.free j
   have hjI : (j : Int) < (x.m : Int) := by omega
   go_wp2_with fail
   refine HIX.out.mono ?_
   rintro e w' ⟨rfl, rfl⟩
   rw [HIF.out]
   go_wp2_with fail
   have HMd := Lib.hid (HM.out.setTr (by omega) hB2 j ((2 * (k : Int)) + 1))
   have HXd : Hid (Bx (wc.setCell ⟨gt, j, none⟩ (.int .i64 ((2 * (k : Int)) + 1))) b5 76 #[.int .i64 a, .bool b, .bool c]) := HX.out.setOther (by dsimp only; omega) _
   generalize hwd : wc.setCell ⟨gt, j, none⟩ (.int .i64 ((2 * (k : Int)) + 1)) = wd at *
   clear hwd
   have hmc := HMd.out.mb.cell
   have hrc := HMd.out.rw.box.cell
   have hxc := HXd.out.cell
   have hbc := HMd.out.rw.bl hk
   have hbf := HMd.out.rw.bs.free
   refine wp_region_held_drew (S := (fun w' => w'.cell? ⟨w.heap.size, 0, none⟩ = some (.int .i64 (k : Int)) ∧ w'.cell? ⟨r, 0, none⟩ = some (.slice (some ⟨gb, 0, none⟩) x.n cb) ∧ w'.cell? ⟨b5, 0, none⟩ = some (.int .i64 a) ∧ w'.cell? ⟨b5, 1, none⟩ = some (.bool b) ∧ w'.cell? ⟨b5, 2, none⟩ = some (.bool c))) (by kernel_rfl) ?_ (fun hHeld => ?_)
   ·try dsimp only
    go_keep
   refine tkR 0 ?_
   refine tkR 1 ?_
   refine tkR 2 ?_
   refine tkR 3 ?_
   refine tkR 4 ?_
   refine tkR 5 ?_
   refine tkR 6 ?_
   refine tkR 7 ?_
   have HMs := Lib.hid ((HMd.out.below (Below.refl _ wd).drew rfl hB3).setBk (by omega) hB1 k a b c)
   have HXs : Hid (Bx ((((wd.drew).setCell ⟨gb, k * 3, none⟩ (.int .i64 a)).setCell ⟨gb, k * 3 + 1, none⟩ (.bool b)).setCell ⟨gb, k * 3 + 2, none⟩ (.bool c)) b5 76 #[.int .i64 a, .bool b, .bool c]) := ((HXd.out.drew.setOther (by dsimp only; omega) _).setOther (by dsimp only; omega) _).setOther (by dsimp only; omega) _
   refine r1R 8 (fun K hK => ?_)
   go_simp
   refine oR hK ?_ (fun hHeld => ?_)
   ·try dsimp only
    exact ⟨HMs.out.mb.cell 0, HMs.out.rw.box.cell 0, HXs.out.cell 0, HXs.out.cell 1, HXs.out.cell 2⟩
   clear hK K
   refine wpAnyH_done (by kernel_rfl) ?_ _
   go_wp2_with fail
   go_ret
   exact MvR.yes (by rw [HT.out]; exact HMs.out.rw) HMs.out.bl HYES.out
  by_cases e2 : l = ⟨#[108]⟩
  ·have HELp : (eB l || lB l) = true ∧ plI (k : Int) l = 2 * (k : Int) + 1 := by
    have h1 : eB l = false := decide_eq_false e1
    have h2 : lB l = true := decide_eq_true e2
    refine ⟨by rw [h1, h2]; rfl, ?_⟩
    unfold plI
    rw [if_neg (by simp [h1]), if_pos h2]
   have t1 := tl_one e1
   have t2 := tl_some e2
   clear e1 e2
   have HEL : Hid ((eB l || lB l) = true ∧ plI (k : Int) l = (2 * (k : Int) + 1)) := HELp
   obtain ⟨j, hj⟩ : ∃ j, j = fstA x.T (2 * (k : Int) + 1) x.m := ⟨_, rfl⟩
   have HIX : Hid (Calls Tryz.prog 162 #[.slice (some ⟨gt, 0, none⟩) x.m ct, .int .i64 (2 * (k : Int) + 1)] wc fun e w' => e = .returned (.int .i64 (if j < x.m then (j : Int) else -1)) ∧ wc = w') := by
    rw [hj]
    exact index_any gt 0 x.m ct x.T (2 * (k : Int) + 1) wc hm HM.out.rw.ic
   by_cases hjm : ¬ j < x.m
   ·have HV : Hid (mvOk x (k : Int) l = false) := mvOk_tr HEL.out.1 (by rw [HEL.out.2, ← hj]; exact hjm)
    have HIF : Hid ((if j < x.m then (j : Int) else -1) = -1) := if_neg hjm
    clear hjm hj
    go_wp2_with fail
    refine HIX.out.mono ?_
    rintro e w' ⟨rfl, rfl⟩
    rw [HIF.out]
    go_wp2_with fail
    go_ret
    exact MvR.no HM.out.rw HM.out.bl HV.out
   replace hjm := Decidable.not_not.1 hjm
   have HYES : Hid (mvOk x (k : Int) l = true) := mvOk_yes HKL.out HJ5.out (.inr (by rw [HEL.out.2, ← hj]; exact hjm))
   have hTj : x.T j = (2 * (k : Int) + 1) := by rw [hj]; exact fstA_at x.T _ x.m (by rw [← hj]; exact hjm)
   have HT : Hid (mvTo x (k : Int) l = { n := x.n, N := upd x.N k a, I := upd x.I k b, O := upd x.O k c, m := x.m, T := upd x.T j ((2 * (k : Int) + 1) + 1) }) := by
    show _ = _
    obtain ⟨a1, a2, a3⟩ := HA.out
    unfold mvTo
    rw [if_pos HEL.out.1, HEL.out.2, ← hj, a1, a2, a3]
    rfl
   have hcj := HM.out.rw.tr hjm
   rw [hTj] at hcj
   have HIF : Hid ((if j < x.m then (j : Int) else -1) = j) := if_pos hjm
   clear hj hTj
   have hfj := HM.out.rw.ts.free j
   have hjI : (j : Int) < (x.m : Int) := by omega
   go_wp2_with fail
   refine HIX.out.mono ?_
   rintro e w' ⟨rfl, rfl⟩
   rw [HIF.out]
   go_wp2_with fail
   have HMd := Lib.hid (HM.out.setTr (by omega) hB2 j ((2 * (k : Int) + 1) + 1))
   have HXd : Hid (Bx (wc.setCell ⟨gt, j, none⟩ (.int .i64 ((2 * (k : Int) + 1) + 1))) b5 76 #[.int .i64 a, .bool b, .bool c]) := HX.out.setOther (by dsimp only; omega) _
   generalize hwd : wc.setCell ⟨gt, j, none⟩ (.int .i64 ((2 * (k : Int) + 1) + 1)) = wd at *
   clear hwd
   have hmc := HMd.out.mb.cell
   have hrc := HMd.out.rw.box.cell
   have hxc := HXd.out.cell
   have hbc := HMd.out.rw.bl hk
   have hbf := HMd.out.rw.bs.free
   refine wp_region_held_drew (S := (fun w' => w'.cell? ⟨w.heap.size, 0, none⟩ = some (.int .i64 (k : Int)) ∧ w'.cell? ⟨r, 0, none⟩ = some (.slice (some ⟨gb, 0, none⟩) x.n cb) ∧ w'.cell? ⟨b5, 0, none⟩ = some (.int .i64 a) ∧ w'.cell? ⟨b5, 1, none⟩ = some (.bool b) ∧ w'.cell? ⟨b5, 2, none⟩ = some (.bool c))) (by kernel_rfl) ?_ (fun hHeld => ?_)
   ·try dsimp only
    go_keep
   refine tkR 0 ?_
   refine tkR 1 ?_
   refine tkR 2 ?_
   refine tkR 3 ?_
   refine tkR 4 ?_
   refine tkR 5 ?_
   refine tkR 6 ?_
   refine tkR 7 ?_
   have HMs := Lib.hid ((HMd.out.below (Below.refl _ wd).drew rfl hB3).setBk (by omega) hB1 k a b c)
   have HXs : Hid (Bx ((((wd.drew).setCell ⟨gb, k * 3, none⟩ (.int .i64 a)).setCell ⟨gb, k * 3 + 1, none⟩ (.bool b)).setCell ⟨gb, k * 3 + 2, none⟩ (.bool c)) b5 76 #[.int .i64 a, .bool b, .bool c]) := ((HXd.out.drew.setOther (by dsimp only; omega) _).setOther (by dsimp only; omega) _).setOther (by dsimp only; omega) _
   refine r1R 8 (fun K hK => ?_)
   go_simp
   refine oR hK ?_ (fun hHeld => ?_)
   ·try dsimp only
    exact ⟨HMs.out.mb.cell 0, HMs.out.rw.box.cell 0, HXs.out.cell 0, HXs.out.cell 1, HXs.out.cell 2⟩
   clear hK K
   refine wpAnyH_done (by kernel_rfl) ?_ _
   go_wp2_with fail
   go_ret
   exact MvR.yes (by rw [HT.out]; exact HMs.out.rw) HMs.out.bl HYES.out
  have HMd := HM
  have HXd := HX
  have hxc := HXd.out.cell
  have hbc := HMd.out.rw.bl hk
  have hbf := HMd.out.rw.bs.free
  have t1 := tl_one e1
  have t2 := tl_one e2
  have HNE : Hid ((eB l || lB l) = false) := by
   show _ = _
   have h1 : eB l = false := decide_eq_false e1
   have h2 : lB l = false := decide_eq_false e2
   rw [h1, h2]; rfl
  have HYES : Hid (mvOk x (k : Int) l = true) := mvOk_yes HKL.out HJ5.out (.inl HNE.out)
  have HT : Hid (mvTo x (k : Int) l = { n := x.n, N := upd x.N k a, I := upd x.I k b, O := upd x.O k c, m := x.m, T := x.T }) := by
   show _ = _
   obtain ⟨a1, a2, a3⟩ := HA.out
   unfold mvTo
   rw [HNE.out, if_neg (by simp), a1, a2, a3]
   rfl
  clear e1 e2
  go_wp2_with fail
  refine wp_region_held_drew (S := (fun w' => w'.cell? ⟨w.heap.size, 0, none⟩ = some (.int .i64 (k : Int)) ∧ w'.cell? ⟨r, 0, none⟩ = some (.slice (some ⟨gb, 0, none⟩) x.n cb) ∧ w'.cell? ⟨b5, 0, none⟩ = some (.int .i64 a) ∧ w'.cell? ⟨b5, 1, none⟩ = some (.bool b) ∧ w'.cell? ⟨b5, 2, none⟩ = some (.bool c))) (by kernel_rfl) ?_ (fun hHeld => ?_)
  ·try dsimp only
   go_keep
  refine tkR 0 ?_
  refine tkR 1 ?_
  refine tkR 2 ?_
  refine tkR 3 ?_
  refine tkR 4 ?_
  refine tkR 5 ?_
  refine tkR 6 ?_
  refine tkR 7 ?_
  have HMs := Lib.hid ((HMd.out.below (Below.refl _ wc).drew rfl hB3).setBk (by omega) hB1 k a b c)
  have HXs : Hid (Bx ((((wc.drew).setCell ⟨gb, k * 3, none⟩ (.int .i64 a)).setCell ⟨gb, k * 3 + 1, none⟩ (.bool b)).setCell ⟨gb, k * 3 + 2, none⟩ (.bool c)) b5 76 #[.int .i64 a, .bool b, .bool c]) := ((HXd.out.drew.setOther (by dsimp only; omega) _).setOther (by dsimp only; omega) _).setOther (by dsimp only; omega) _
  refine r1R 8 (fun K hK => ?_)
  go_simp
  refine oR hK ?_ (fun hHeld => ?_)
  ·try dsimp only
   exact ⟨HMs.out.mb.cell 0, HMs.out.rw.box.cell 0, HXs.out.cell 0, HXs.out.cell 1, HXs.out.cell 2⟩
  clear hK K
  refine wpAnyH_done (by kernel_rfl) ?_ _
  go_wp2_with fail
  go_ret
  exact MvR.yes (by rw [HT.out]; exact HMs.out.rw) HMs.out.bl HYES.out
def mvLt (x : Ln) (k : Nat) : List UInt8 := nxT (stI (x.N k) (x.I k) (x.O k)) 7
def mvSk (x : Ln) (k : Nat) (c : UInt8) : Bool := decide (c = 101) && decide (cntA x.T (2 * k) x.m = 0)
def mvI (x : Ln) (k i : Nat) : List (Int × ByteArray) := (((mvLt x k).take i).filter (fun c => !mvSk x k c)).map fun c => ((k : Int), chr c)
def mvK (x : Ln) (k : Nat) : List (Int × ByteArray) := mvI x k (mvLt x k).length
def mvU (x : Ln) (k : Nat) : List (Int × ByteArray) := (List.range k).flatMap (mvK x)
def mvsL (x : Ln) : List (Int × ByteArray) := mvU x x.n
theorem mvU_succ (x : Ln) (k : Nat) : mvU x (k + 1) = mvU x k ++ mvK x k := by simp [mvU, List.range_succ]
theorem mvI_zero (x : Ln) (k : Nat) : mvI x k 0 = [] := rfl
theorem mvI_yes {x : Ln} {k i : Nat} {c : UInt8} (hc : (mvLt x k)[i]? = some c) (h : mvSk x k c = false) : mvI x k (i + 1) = mvI x k i ++ [((k : Int), chr c)] := by
 simp [mvI, List.take_add_one, hc, h]
theorem mvI_skip {x : Ln} {k i : Nat} {c : UInt8} (hc : (mvLt x k)[i]? = some c) (h : mvSk x k c = true) : mvI x k (i + 1) = mvI x k i := by
 simp [mvI, List.take_add_one, hc, h]
theorem mvI_len (x : Ln) (k i : Nat) : (mvI x k i).length ≤ i := by
 simp only [mvI, List.length_map]
 exact Nat.le_trans (List.length_filter_le _ _) (by simp; omega)
theorem mvLt_len (x : Ln) (k : Nat) : (mvLt x k).length ≤ 7 := nxT_len _ _
theorem mvU_len (x : Ln) : ∀ k, (mvU x k).length ≤ 7 * k
  | 0 => by simp [mvU]
  | k + 1 => by
   rw [mvU_succ, List.length_append]
   have h1 := mvU_len x k
   have h2 := mvI_len x k (mvLt x k).length
   have h3 := mvLt_len x k
   unfold mvK
   omega
theorem mvI_pre (x : Ln) (k i : Nat) : mvI x k i <+: mvK x k := by
 unfold mvK mvI
 rw [List.take_length]
 have h : (mvLt x k).take i <+: mvLt x k := List.take_prefix _ _
 obtain ⟨t, ht⟩ := h
 refine ⟨((t.filter (fun c => !mvSk x k c)).map fun c => ((k : Int), chr c)), ?_⟩
 rw [← List.map_append, ← List.filter_append, ht]
theorem mvU_pre (x : Ln) {k : Nat} : ∀ {m : Nat}, k ≤ m → mvU x k <+: mvU x m
  | 0, h => by obtain rfl : k = 0 := by omega
               exact List.prefix_refl _
  | m + 1, h => by
   by_cases e : k = m + 1
   ·subst e; exact List.prefix_refl _
   ·exact (mvU_pre x (show k ≤ m by omega)).trans (by rw [mvU_succ]; exact List.prefix_append _ _)
theorem mv_pre {x : Ln} {k i : Nat} (hk : k < x.n) : mvU x k ++ mvI x k i <+: mvsL x := by
 have h1 : mvU x k ++ mvI x k i <+: mvU x (k + 1) := by
  rw [mvU_succ]
  exact List.prefix_append_right_inj _ |>.2 (mvI_pre x k i)
 exact h1.trans (mvU_pre x (by omega))
theorem ext_one {l : List UInt8} {i : Nat} {c : UInt8} (h : l[i]? = some c) : (⟨l.toArray⟩ : ByteArray).extract i (i + 1) = chr c := by
 have hi : i < l.length := (List.getElem?_eq_some_iff.1 h).1
 apply ByteArray.ext
 apply Array.toList_inj.1
 rw [show ((⟨l.toArray⟩ : ByteArray).extract i (i + 1)).data = l.toArray.extract i (i + 1) from ByteArray.data_extract]
 rw [Array.toList_extract]
 simp only [List.extract, show i + 1 - i = 1 by omega]
 rw [List.take_one, List.head?_drop, h]
 rfl
theorem RwC.belowN {B : Nat} {w w' : World} {r gb cb gt ct : Nat} {x : Ln} (h : RwC w r gb cb gt ct x) (hb : Below B w w') (h1 : r < B) (h2 : gb < B) (h3 : gt < B) : RwC w' r gb cb gt ct x :=
 ⟨h.box.below hb h1, h.bs.below hb h2, h.ts.below hb h3, h.d1, h.d2, h.d3⟩
attribute [local go_sem] Oper.semAt_some
set_option linter.unusedSimpArgs false in
set_option maxRecDepth 100000 in
set_option maxHeartbeats 4000000 in
theorem mv1_in (n : Nat) (hn : 1 ≤ n) (l Bs n₀ r gb cb gt ct : Nat) (x : Ln) (hxn : x.n ≤ 1000000) (hxm : x.m ≤ 1000000) (J Jx : List (Int × ByteArray) → World → Prop) (W : World)
    (hJ : AbidesFrom W.heap.size J)
    (hY : ∀ pre y W1, J pre W1 → pre.length < 7 * x.n + 1 → YieldAt Fence.wide (n - 1) Tryz.prog l #[.agg #[.int .i64 y.1, .string y.2]] W1 fun e W' =>
     (e = .returned (.bool true) ∧ J (pre ++ [y]) W' ∧ Below n₀ W1 W') ∨ (e = .returned (.bool false) ∧ Jx (pre ++ [y]) W'))
    (hBs : W.cell? ⟨Bs, 0, none⟩ = some (.pointer (some ⟨r, 0, none⟩))) (hB1 : Bs < n₀) (hr : RwC W r gb cb gt ct x) (hB2 : r < n₀) (hB3 : gb < n₀) (hB4 : gt < n₀) (hn0 : n₀ ≤ W.heap.size) (h0 : J [] W) :
    CallsIn Fence.wide n Tryz.prog 166 #[.func (.yield l) #[] #[], .pointer (some ⟨Bs, 0, none⟩)] W fun e W' => (∃ v, e = .returned v) ∧
      ((∃ ys, ys = mvsL x ∧ J ys W') ∨ (∃ pre, pre <+: mvsL x ∧ Jx pre W')) := by
  have HR := Lib.hid hr
  have hrc := hr.box.cell
  have HJ : Hid (∀ s w1 w2, J s w1 → Below w1.heap.size w1 w2 → J s w2) := fun s w1 w2 hs hb => hJ s w1 w2 none hs (grownBy_below hb none) (fun r e => by cases e)
  have HY := Lib.hid hY
  have HC : Hid (∀ w', Below n₀ W w' → w'.cell? ⟨Bs, 0, none⟩ = some (.pointer (some ⟨r, 0, none⟩))) := fun w' hb => by rw [hb.cell (p := ⟨Bs, 0, none⟩) hB1]; exact hBs
  have H0 := Lib.hid h0
  clear hr hJ hY h0
  refine callsIn_of_wp Tryz.func166 rfl trivial ?_ rfl
  simp only [Tryz.ntmps166, List.size_toArray, List.length_cons, List.length_nil, Nat.reduceAdd, Nat.reduceSub, Array.replicate_succ, Array.replicate_zero, List.push_toArray, List.append_toArray, List.nil_append, List.cons_append]
  gi_wp2
  clear hrc hBs
  gi_loopw [3, 4, 5, 6, 12] (fun _ _ _ _ i wr => ∃ k : Nat, k ≤ x.n ∧ i = .int .i64 k ∧ Hid (J (mvU x k) wr) ∧ Hid (Below n₀ W wr)) (fun _ _ _ _ i _ => x.n - (intOf i).toNat)
  case atStart => exact ⟨0, Nat.zero_le _, rfl, H0, Below.refl _ _⟩
  case round =>
   obtain ⟨k, hk, rfl, HJk, HB⟩ := hrel
   have HRk := Lib.hid (HR.out.belowN HB.out hB2 hB3 hB4)
   have hbc := HC.out _ HB.out
   have hrc := HRk.out.box.cell
   by_cases hlt : k < x.n
   ·have hblk := HRk.out.bl hlt
    gi_wp2
    refine ⟨trivial, ?_⟩
    refine (callsIn_wide.2 (next_any _ _ _ _)).mono ?_
    rintro e w2 ⟨rfl, hb2⟩
    have HJ2 := Lib.hid (HJ.out _ _ _ HJk.out hb2)
    have HB2 := Lib.hid (HB.out.trans (hb2.mono (Nat.le_trans hn0 HB.out.size)))
    obtain ⟨lt, hlt7⟩ : ∃ lt, lt = nxT (stI (x.N k) (x.I k) (x.O k)) 7 := ⟨_, rfl⟩
    rw [← hlt7]
    have HLT : Hid (mvLt x k = lt) := hlt7.symm
    have hlen : lt.length ≤ 7 := by rw [hlt7]; exact nxT_len _ _
    have hsz : (⟨lt.toArray⟩ : ByteArray).size = lt.length := by simp [ByteArray.size]
    clear hlt7 hb2 hbc hrc hblk
    gi_wp2
    gi_loopw [5, 6, 25] (fun _ _ i wr => ∃ j : Nat, j ≤ lt.length ∧ i = .int .i64 j ∧ Hid (J (mvU x k ++ mvI x k j) wr) ∧ Hid (Below n₀ W wr)) (fun _ _ i _ => lt.length - (intOf i).toNat)
    case atStart => exact ⟨0, Nat.zero_le _, rfl, by rw [mvI_zero, List.append_nil]; exact HJ2, HB2⟩
    case round =>
     obtain ⟨j, hj, rfl, HJj, HBj⟩ := hrel
     have HRj := Lib.hid (HR.out.belowN HBj.out hB2 hB3 hB4)
     have hbc := HC.out _ HBj.out
     have hrc := HRj.out.box.cell
     by_cases hjt : j < lt.length
     ·obtain ⟨c, hc⟩ : ∃ c, lt[j]? = some c := ⟨_, List.getElem?_eq_getElem hjt⟩
      have hex := ext_one hc
      have HCJ : Hid ((mvLt x k)[j]? = some c) := by show _ = _; rw [HLT.out]; exact hc
      clear hc
      have hpl : (mvU x k ++ mvI x k j).length < 7 * x.n + 1 := by
       rw [List.length_append]
       have h1 := mvU_len x k
       have h2 := mvI_len x k j
       omega
      have HPL := Lib.hid hpl
      clear hpl
      have HCN : Hid (Calls Tryz.prog 160 #[.pointer (some ⟨r, 0, none⟩), .int .i64 (2 * k)] wr fun e w' => e = .returned (.int .i64 (cntA x.T (2 * k) x.m)) ∧ wr = w') := count_any r _ gt 0 x.m ct x.T (2 * k) wr (by omega) HRj.out.box HRj.out.ic
      have hjI : (j : Int) < (lt.length : Int) := by omega
      by_cases h1 : c = 101
      ·subst h1
       have t1 : ((chr 101).toList == [101]) = true := tl_some rfl
       by_cases h2 : cntA x.T (2 * k) x.m = 0
       ·have HE := Lib.hid (mvI_skip HCJ.out (show mvSk x k 101 = true by simp [mvSk, h2]))
        have HZ := Lib.hid h2
        clear h2
        gi_wp2
        refine ⟨trivial, ?_⟩
        refine (callsIn_wide.2 HCN.out).mono ?_
        rintro e w3 ⟨rfl, rfl⟩
        rw [HZ.out]
        gi_wp2
        go_roundw
        case rel => exact ⟨j + 1, by omega, by go_num, by rw [HE.out]; exact HJj, HBj⟩
        case measure => simp [intOf]; omega
       ·have HE := Lib.hid (mvI_yes HCJ.out (show mvSk x k 101 = false by simp [mvSk, h2]))
        have h3 : ((cntA x.T (2 * k) x.m : Int) == 0) = false := by simp; exact h2
        clear h2
        obtain ⟨fn, tmps, assign, body, hy, hR⟩ := HY.out _ ((k : Int), chr 101) wr HJj.out HPL.out
        dsimp only at hy
        gi_wp2
        refine ⟨trivial, ?_⟩
        refine (callsIn_wide.2 HCN.out).mono ?_
        rintro e w3 ⟨rfl, rfl⟩
        gi_wp2
        refine hR.mono ?_
        rintro e W3 (⟨rfl, hJ3, hk3⟩ | ⟨rfl, hJx3⟩)
        ·gi_wp2
         go_roundw
         case rel => exact ⟨j + 1, by omega, by go_num, by rw [HE.out, ← List.append_assoc]; exact hJ3, HBj.out.trans hk3⟩
         case measure => simp [intOf]; omega
        ·gi_wp2
         refine bodyPost_ret (results_none rfl _ _ _) rfl ?_
         exact ⟨⟨_, rfl⟩, .inr ⟨_, by rw [List.append_assoc, ← HE.out]; exact mv_pre hlt, hJx3⟩⟩
      ·have t1 : ((chr c).toList == [101]) = false := tl_one (fun e => h1 (by simpa [chr] using e))
       have HE := Lib.hid (mvI_yes HCJ.out (show mvSk x k c = false by simp [mvSk, h1]))
       clear h1
       generalize chr c = s at *
       obtain ⟨fn, tmps, assign, body, hy, hR⟩ := HY.out _ ((k : Int), s) wr HJj.out HPL.out
       dsimp only at hy
       gi_wp2
       refine ⟨trivial, ?_⟩
       gi_wp2
       refine hR.mono ?_
       rintro e W3 (⟨rfl, hJ3, hk3⟩ | ⟨rfl, hJx3⟩)
       ·gi_wp2
        go_roundw
        case rel => exact ⟨j + 1, by omega, by go_num, by rw [HE.out, ← List.append_assoc]; exact hJ3, HBj.out.trans hk3⟩
        case measure => simp [intOf]; omega
       ·gi_wp2
        refine bodyPost_ret (results_none rfl _ _ _) rfl ?_
        exact ⟨⟨_, rfl⟩, .inr ⟨_, by rw [List.append_assoc, ← HE.out]; exact mv_pre hlt, hJx3⟩⟩
     ·obtain e : j = lt.length := by omega
      subst e
      have HE : Hid (mvU x k ++ mvI x k lt.length = mvU x (k + 1)) := by
       show _ = _
       rw [mvU_succ]
       unfold mvK
       rw [HLT.out]
      gi_wp2
      go_roundw
      case rel => exact ⟨k + 1, by omega, by go_num, by rw [← HE.out]; exact HJj, HBj⟩
      case measure => simp [intOf]; omega
   ·obtain e : k = x.n := by omega
    subst e
    gi_wp2
    go_end0
    exact ⟨⟨_, rfl⟩, .inl ⟨_, rfl, HJk.out⟩⟩
end Go.Proofs.YtlkdmpfifpkpaaaGreatDoor

