/-
  Parts of the proof: Sd. No condition.
-/
import Derived.Test.YtlkdmpfifpkpaaaGreatDoorV13
namespace Go.Proofs.YtlkdmpfifpkpaaaGreatDoor
open Go.RowKit
set_option linter.unusedSimpArgs false in
theorem l4At_any (bb bo cb tb tu ct : Nat) (x : Ln) (p : Int) (w : World) (hm : x.m ≤ 1000000000000) (hic : IC w tb tu x.m x.T) :
    Calls Tryz.prog 110 #[.agg #[.slice (some ⟨bb, bo, none⟩) x.n cb, .slice (some ⟨tb, tu, none⟩) x.m ct], .int .i64 p] w fun e w' => e = .returned (.int .i64 (idxI x.T p x.m)) ∧ Below w.heap.size w w' := by
  have HM : Hid (VdM w (w.alloc (.cells #[.slice (some ⟨bb, bo, none⟩) x.n cb, .slice (some ⟨tb, tu, none⟩) x.m ct] 31)) (.slice (some ⟨bb, bo, none⟩) x.n cb) (.slice (some ⟨tb, tu, none⟩) x.m ct)) := ⟨Bx.new _ _ _, below_all _ _⟩
  have HKT : Hid (∀ w', Below w.heap.size w w' → IC w' tb tu x.m x.T) := fun w' hb => hic.keep hb
  clear hic
  go_enter Tryz.func110, Tryz.ntmps110
  go_wp2_with fail
  generalize hW0 : w.alloc (.cells #[.slice (some ⟨bb, bo, none⟩) x.n cb, .slice (some ⟨tb, tu, none⟩) x.m ct] 31) = W0 at *
  clear hW0
  have hrc := HM.out.box.cell
  go_loop [5] (fun s => ∃ k : Nat, k ≤ x.m ∧ s = .int .i64 k ∧ Hid (∀ j, j < k → x.T j ≠ p)) (fun s => x.m - (intOf s).toNat)
  case atStart => exact ⟨0, Nat.zero_le _, rfl, Lib.hid (fun j hj => by omega)⟩
  case round =>
   obtain ⟨k, hk, rfl, HA⟩ := hrel
   by_cases hlt : k < x.m
   ·have hck := (HKT.out _ HM.out.bl).at k hlt
    by_cases h1 : x.T k = p
    ·have HE : Hid (idxI x.T p x.m = k) := by show _ = _; unfold idxI; rw [fstA_stop x.T p HA.out h1 x.m hlt, if_pos hlt]
     have h2 : (x.T k == p) = true := by simp [h1]
     clear h1
     go_wp2_with fail
     go_ret
     exact ⟨retI HE.out.symm, HM.out.bl⟩
    ·have HE : Hid (∀ j, j < k + 1 → x.T j ≠ p) := fun j hj => by
      by_cases e : j = k
      ·rw [e]; exact h1
      ·exact HA.out j (by omega)
     have h2 : (x.T k == p) = false := by simp [h1]
     clear h1
     go_wp2_with fail
     go_round
     case rel => exact ⟨k + 1, by omega, by go_num, HE⟩
     case measure => simp [intOf]; omega
   ·obtain e : k = x.m := by omega
    have HE : Hid (idxI x.T p x.m = -1) := by show _ = _; unfold idxI; rw [fstA_none x.T p x.m (by rw [← e]; exact HA.out), if_neg (Nat.lt_irrefl _)]
    subst e
    go_wp2_with fail
    go_ret
    exact ⟨retI HE.out.symm, HM.out.bl⟩
structure StM (w wr : World) (v1 v2 : Value) (s : Int) (l : ByteArray) : Prop where
  arg : Bx wr w.heap.size 31 #[v1, v2]
  mb : Bx wr (w.heap.size + 1) 94 #[.int .i64 s, .string l]
  res : Bx wr (w.heap.size + 1 + 1) 31 #[.slice none 0 0, .slice none 0 0]
  bl : Below w.heap.size w wr
theorem StM.below {w wr w' : World} {v1 v2 : Value} {s : Int} {l : ByteArray} {D : Nat} (h : StM w wr v1 v2 s l) (hb : Below D wr w') (hD : w.heap.size + 3 ≤ D) : StM w w' v1 v2 s l :=
 ⟨h.arg.below hb (by omega), h.mb.below hb (by omega), h.res.below hb (by omega), h.bl.trans (hb.mono (by omega))⟩
theorem StM.sz {w wr : World} {v1 v2 : Value} {s : Int} {l : ByteArray} (h : StM w wr v1 v2 s l) : w.heap.size + 3 ≤ wr.heap.size := by
 have := h.res.lt; omega
def StCL (w : World) (z : Nat) (v1 v2 : Value) (x : Ln) (s : Int) (l : ByteArray) (s6 s7 : Value) (wx : World) : Prop :=
 ∃ b6 a b c, s6 = .pointer (some ⟨b6, 0, none⟩) ∧ s7 = .bool (decide (mvJ x s l < 5)) ∧ StM w wx v1 v2 s l ∧ Bx wx b6 76 #[.int .i64 a, .bool b, .bool c] ∧ z ≤ b6 ∧ bsV (mvJ x s l) = .agg #[.int .i64 a, .bool b, .bool c]
structure SfM (w wr : World) (v1 v2 : Value) (s : Int) (l : ByteArray) (b8 g1 c1 g2 c2 : Nat) (y : Ln) : Prop where
  st : StM w wr v1 v2 s l
  box : Bx wr b8 31 #[.slice (some ⟨g1, 0, none⟩) y.n c1, .slice (some ⟨g2, 0, none⟩) y.m c2]
  bs : Own wr g1 c1 y.n 3 76 (bkF y.N y.I y.O)
  ts : Own wr g2 c2 y.m 1 3 (fun i => .int .i64 (y.T i))
  z8 : w.heap.size + 3 ≤ b8
  z1 : w.heap.size + 3 ≤ g1
  z2 : w.heap.size + 3 ≤ g2
  d1 : b8 ≠ g1
  d2 : b8 ≠ g2
  d3 : g1 ≠ g2
theorem SfM.bl {w wr : World} {v1 v2 : Value} {s : Int} {l : ByteArray} {b8 g1 c1 g2 c2 : Nat} {y : Ln} (h : SfM w wr v1 v2 s l b8 g1 c1 g2 c2 y) {k : Nat} (hk : k < y.n) : wr.cell? ⟨g1, k * 3, none⟩ = some (.int .i64 (y.N k)) ∧ wr.cell? ⟨g1, k * 3 + 1, none⟩ = some (.bool (y.I k)) ∧ wr.cell? ⟨g1, k * 3 + 2, none⟩ = some (.bool (y.O k)) := by
 have := (BkC.of_own h.bs).at k hk
 simpa using this
theorem SfM.below {w wr w' : World} {v1 v2 : Value} {s : Int} {l : ByteArray} {b8 g1 c1 g2 c2 : Nat} {y : Ln} (h : SfM w wr v1 v2 s l b8 g1 c1 g2 c2 y) (hb : Below wr.heap.size wr w') : SfM w w' v1 v2 s l b8 g1 c1 g2 c2 y :=
 ⟨h.st.below hb h.st.sz, h.box.below hb h.box.lt, h.bs.below hb h.bs.lt, h.ts.below hb h.ts.lt, h.z8, h.z1, h.z2, h.d1, h.d2, h.d3⟩
theorem StM.setOther {w wr : World} {v1 v2 : Value} {s : Int} {l : ByteArray} (h : StM w wr v1 v2 s l) {b o : Nat} (hb : w.heap.size + 3 ≤ b) (v : Value) : StM w (wr.setCell ⟨b, o, none⟩ v) v1 v2 s l :=
 ⟨h.arg.setOther (by dsimp only; omega) _, h.mb.setOther (by dsimp only; omega) _, h.res.setOther (by dsimp only; omega) _, h.bl.setCell (p := ⟨b, o, none⟩) (by dsimp only; omega) _⟩
theorem SfM.setBk {w wr : World} {v1 v2 : Value} {s : Int} {l : ByteArray} {b8 g1 c1 g2 c2 : Nat} {y : Ln} (h : SfM w wr v1 v2 s l b8 g1 c1 g2 c2 y) (k : Nat) (a : Int) (b c : Bool) :
    SfM w (((wr.setCell ⟨g1, k * 3, none⟩ (.int .i64 a)).setCell ⟨g1, k * 3 + 1, none⟩ (.bool b)).setCell ⟨g1, k * 3 + 2, none⟩ (.bool c)) v1 v2 s l b8 g1 c1 g2 c2 { y with N := upd y.N k a, I := upd y.I k b, O := upd y.O k c } := by
  have d1 := h.d1
  have d3 := h.d3
  exact ⟨((h.st.setOther h.z1 _).setOther h.z1 _).setOther h.z1 _, ((h.box.setOther (by dsimp only; omega) _).setOther (by dsimp only; omega) _).setOther (by dsimp only; omega) _, h.bs.setBk k a b c, ((h.ts.setOther (by dsimp only; omega) _).setOther (by dsimp only; omega) _).setOther (by dsimp only; omega) _, h.z8, h.z1, h.z2, h.d1, h.d2, h.d3⟩
theorem SfM.setTr {w wr : World} {v1 v2 : Value} {s : Int} {l : ByteArray} {b8 g1 c1 g2 c2 : Nat} {y : Ln} (h : SfM w wr v1 v2 s l b8 g1 c1 g2 c2 y) (j : Nat) (a : Int) :
    SfM w (wr.setCell ⟨g2, j, none⟩ (.int .i64 a)) v1 v2 s l b8 g1 c1 g2 c2 { y with T := upd y.T j a } := by
  have d2 := h.d2
  have d3 := h.d3
  exact ⟨h.st.setOther h.z2 _, h.box.setOther (by dsimp only; omega) _, h.bs.setOther (by dsimp only; omega) _, h.ts.setInt j a, h.z8, h.z1, h.z2, h.d1, h.d2, h.d3⟩
theorem SfM.done {w wr : World} {v1 v2 : Value} {s : Int} {l : ByteArray} {b8 g1 c1 g2 c2 : Nat} {y : Ln} (h : SfM w wr v1 v2 s l b8 g1 c1 g2 c2 y) (u0 u1 : Value) :
    LnO w.heap.size ((wr.setCell ⟨w.heap.size + 1 + 1, 0, none⟩ u0).setCell ⟨w.heap.size + 1 + 1, 1, none⟩ u1) (.agg #[.slice (some ⟨g1, 0, none⟩) y.n c1, .slice (some ⟨g2, 0, none⟩) y.m c2]) y ∧ Below w.heap.size w ((wr.setCell ⟨w.heap.size + 1 + 1, 0, none⟩ u0).setCell ⟨w.heap.size + 1 + 1, 1, none⟩ u1) := by
  have z1 := h.z1
  have z2 := h.z2
  exact ⟨⟨g1, c1, g2, c2, rfl, (h.bs.setOther (by dsimp only; omega) _).setOther (by dsimp only; omega) _, (h.ts.setOther (by dsimp only; omega) _).setOther (by dsimp only; omega) _, h.d3, by omega, by omega⟩, (h.st.bl.setCell (p := ⟨w.heap.size + 1 + 1, 0, none⟩) (by dsimp only; omega) _).setCell (p := ⟨w.heap.size + 1 + 1, 1, none⟩) (by dsimp only; omega) _⟩
theorem stepO_no {x : Ln} {s : Int} {l : ByteArray} (h : mvOk x s l = false) : stepO x s l = none := by unfold stepO; rw [h]; rfl
theorem stepO_yes {x : Ln} {s : Int} {l : ByteArray} (h : mvOk x s l = true) : stepO x s l = some (mvTo x s l) := by unfold stepO; rw [h]; rfl
set_option linter.unusedSimpArgs false in
set_option maxRecDepth 100000 in
set_option maxHeartbeats 4000000 in
theorem l4Step_any (bb bo cb tb tu ct : Nat) (x : Ln) (s : Int) (l : ByteArray) (w : World) (hn : x.n ≤ 1000000000000) (hm : x.m ≤ 1000000000000) (hbk : BkC w bb bo x.n x.N x.I x.O) (hic : IC w tb tu x.m x.T) :
    Calls Tryz.prog 83 #[.agg #[.slice (some ⟨bb, bo, none⟩) x.n cb, .slice (some ⟨tb, tu, none⟩) x.m ct], .agg #[.int .i64 s, .string l]] w (LrR (stepO x s l) w) := by
  have HM0 : Hid (StM w (((w.alloc (.cells #[.slice (some ⟨bb, bo, none⟩) x.n cb, .slice (some ⟨tb, tu, none⟩) x.m ct] 31)).alloc (.cells #[.int .i64 s, .string l] 94)).alloc (.cells #[.slice none 0 0, .slice none 0 0] 31)) (.slice (some ⟨bb, bo, none⟩) x.n cb) (.slice (some ⟨tb, tu, none⟩) x.m ct) s l) :=
   ⟨((Bx.new _ _ _).alloc _).alloc _, (Bx.newAt (by simp)).alloc _, Bx.newAt (by simp), ((below_all _ _).alloc (by simp) _).alloc (by simp; omega) _⟩
  have HKB : Hid (∀ w', Below w.heap.size w w' → BkC w' bb bo x.n x.N x.I x.O) := fun w' hb => hbk.keep hb
  have HKT : Hid (∀ w', Below w.heap.size w w' → IC w' tb tu x.m x.T) := fun w' hb => hic.keep hb
  have HBL : Hid (∀ k, k < x.n → bb < w.heap.size) := fun k hk => World.block_lt_of_cell? w ⟨bb, bo + k * 3, none⟩ (hbk k hk).1
  clear hbk hic
  go_enter Tryz.func83, Tryz.ntmps83
  go_wp2_with fail
  have hn1 : IntKind.i64.wrap ((x.n : Int) - 1) = (x.n : Int) - 1 := IntWalk.i64_in _ (by omega)
  generalize hW0 : ((w.alloc (.cells #[.slice (some ⟨bb, bo, none⟩) x.n cb, .slice (some ⟨tb, tu, none⟩) x.m ct] 31)).alloc (.cells #[.int .i64 s, .string l] 94)).alloc (.cells #[.slice none 0 0, .slice none 0 0] 31) = W0 at *
  clear hW0
  have hac := HM0.out.arg.cell
  have hmc := HM0.out.mb.cell
  have hrc := HM0.out.res.cell
  have hrf := HM0.out.res.free
  refine (l6In_any _ _ _ _).mono ?_
  rintro e w1 ⟨rfl, rfl⟩
  cases h0 : inB s 0 ((x.n : Int) - 1)
  ·have HV := Lib.hid (stepO_no (mvOk_out (x := x) (s := s) (l := l) (inB_false.1 h0)))
   have HMx := HM0
   clear h0
   go_wp2_with fail
   exact bodyPost_ret (v := .tuple #[nilLn, .bool false]) (by simp [results, Tryz.results83, go_sem, hrc, nilLn]) rfl ⟨(HMx.out.bl.setCell (by dsimp only; omega) _).setCell (by dsimp only; omega) _, .inl ⟨HV.out, rfl⟩⟩
  have hkl := inB_true.1 h0
  obtain ⟨k, rfl⟩ := Int.eq_ofNat_of_zero_le hkl.1
  have hk : k < x.n := by omega
  have HKL := Lib.hid hkl
  have HJ : Hid (mvJ x (k : Int) l = bsI (x.N k) (x.I k) (x.O k) l) := rfl
  have hbl := HBL.out k hk
  have hkn : (k : Int) < (x.n : Int) := by omega
  clear hkl h0
  go_wp2_with fail
  have hbc := (HKB.out _ HM0.out.bl).at k hk
  have hbv : ∃ a b c, bsV (mvJ x (k : Int) l) = .agg #[.int .i64 a, .bool b, .bool c] := by
   unfold bsV
   split
   ·exact ⟨_, _, _, rfl⟩
   ·exact ⟨_, _, _, rfl⟩
  obtain ⟨ba, bB, bc, hbv⟩ := hbv
  have HBV := Lib.hid hbv
  clear hbv
  have hz0 := HM0.out.sz
  have HST : Hid (∀ W, Calls Tryz.prog 91 #[.agg #[.int .i64 (x.N k), .bool (x.I k), .bool (x.O k)], .string l] W fun e w' => e = .returned (.tuple #[.agg #[.int .i64 ba, .bool bB, .bool bc], .bool (decide (mvJ x (k : Int) l < 5))]) ∧ Below W.heap.size W w') := fun W => by
   refine (specStep_any (x.N k) (x.I k) (x.O k) l W).mono fun e w' h => ?_
   obtain ⟨h1, h2⟩ := h
   rw [← HJ.out, HBV.out] at h1
   exact ⟨h1, h2⟩
  go_cut [6, 7] (StCL w W0.heap.size (.slice (some ⟨bb, bo, none⟩) x.n cb) (.slice (some ⟨tb, tu, none⟩) x.m ct) x (k : Int) l)
  case first =>
   refine wp_region_held_drew (S := (fun w' => w'.cell? ⟨w.heap.size, 0, none⟩ = some (.slice (some ⟨bb, bo, none⟩) x.n cb) ∧ w'.cell? ⟨w.heap.size + 1, 0, none⟩ = some (.int .i64 (k : Int)) ∧ w'.cell? ⟨w.heap.size + 1, 1, none⟩ = some (.string l) ∧ w'.cell? ⟨bb, bo + k * 3, none⟩ = some (.int .i64 (x.N k)) ∧ w'.cell? ⟨bb, bo + k * 3 + 1, none⟩ = some (.bool (x.I k)) ∧ w'.cell? ⟨bb, bo + k * 3 + 2, none⟩ = some (.bool (x.O k)))) (by kernel_rfl) ?_ (fun hHeld => ?_)
   ·try dsimp only
    go_keep
   refine tkR 0 ?_
   refine tkR 1 ?_
   refine tkR 2 ?_
   refine tkR 3 ?_
   refine tkR 4 ?_
   refine tkR 5 ?_
   refine tkR 6 ?_
   refine tkR 7 ?_
   refine wpAnyH_ready (rs := [8, 12]) (by kernel_rfl) (by simp) ?_
   refine c1R (fun K hK => ?_) ?_
   ·go_simp
    go_at_call 91
    go_must (refine Calls.mono (HST.out _) ?_)
    rintro e w1 ⟨rfl, hb1⟩
    have HM1 := Lib.hid (HM0.out.below (w' := w1) ((Below.refl W0.heap.size W0).drew.trans hb1) hz0)
    have hac1 := HM1.out.arg.cell
    have hmc1 := HM1.out.mb.cell
    have hbc1 := (HKB.out _ HM1.out.bl).at k hk
    have hz1 : W0.heap.size ≤ w1.heap.size := hb1.size
    clear hb1 hbc hac hmc
    refine oR hK ?_ (fun hHeld => ?_)
    ·try dsimp only
     go_keep
    clear hK K
    refine tkR 9 ?_
    refine tkR 10 ?_
    refine tkR 11 ?_
    refine r1R 12 (fun K hK => ?_)
    go_simp
    skip
    refine oR hK ?_ (fun hHeld => ?_)
    ·try dsimp only
     go_keep
    clear hK K
    have HMz : Hid (∀ a, StM w (w1.alloc a) (.slice (some ⟨bb, bo, none⟩) x.n cb) (.slice (some ⟨tb, tu, none⟩) x.m ct) (k : Int) l) := fun a => HM1.out.below ((Below.refl w1.heap.size w1).alloc (Nat.le_refl _) a) (by omega)
    refine r1R 13 (fun K hK => ?_)
    go_simp
    skip
    refine oR hK ?_ (fun hHeld => ?_)
    ·try dsimp only
     go_keep
    clear hK K
    refine tkR 14 ?_
    refine wpAnyH_done (by kernel_rfl) ?_ _
    go_wp2_with fail
    go_meet
    exact ⟨w1.heap.size, ba, bB, bc, rfl, rfl, HMz.out _, Bx.new _ _ _, by omega, HBV.out⟩
   refine c1R (fun K hK => ?_) ?_
   ·go_simp
    skip
    refine oR hK ?_ (fun hHeld => ?_)
    ·try dsimp only
     go_keep
    clear hK K
    have HMa : Hid (∀ a, StM w (W0.drew.alloc a) (.slice (some ⟨bb, bo, none⟩) x.n cb) (.slice (some ⟨tb, tu, none⟩) x.m ct) (k : Int) l) := fun a => HM0.out.below (D := W0.heap.size) ((Below.refl _ W0).drew.alloc (Nat.le_refl _) a) hz0
    refine r1R 8 (fun K hK => ?_)
    go_simp
    go_at_call 91
    go_must (refine Calls.mono (HST.out _) ?_)
    rintro e w1 ⟨rfl, hb1⟩
    have HM1 := Lib.hid ((HMa.out _).below (w' := w1) hb1 (by simp; omega))
    have HX1 : Hid (Bx w1 W0.heap.size 76 #[.int .i64 0, .bool false, .bool false]) := (Bx.new W0.drew _ _).below hb1 (by simp)
    have hac1 := HM1.out.arg.cell
    have hmc1 := HM1.out.mb.cell
    have hbc1 := (HKB.out _ HM1.out.bl).at k hk
    have hz1 : W0.heap.size + 1 ≤ w1.heap.size := by have := hb1.size; simpa using this
    clear hb1 hbc hac hmc
    refine oR hK ?_ (fun hHeld => ?_)
    ·try dsimp only
     go_keep
    clear hK K
    refine tkR 9 ?_
    refine tkR 10 ?_
    refine tkR 11 ?_
    have hnx : W0.heap.size ≠ w.heap.size ∧ W0.heap.size ≠ w.heap.size + 1 ∧ W0.heap.size ≠ bb := by omega
    have HMs : Hid (∀ u0 u1 u2, StM w (((w1.setCell ⟨W0.heap.size, 0, none⟩ u0).setCell ⟨W0.heap.size, 1, none⟩ u1).setCell ⟨W0.heap.size, 2, none⟩ u2) (.slice (some ⟨bb, bo, none⟩) x.n cb) (.slice (some ⟨tb, tu, none⟩) x.m ct) (k : Int) l) := fun u0 u1 u2 => HM1.out.below (D := W0.heap.size) ((((Below.refl W0.heap.size w1).setCell (p := ⟨W0.heap.size, 0, none⟩) (Nat.le_refl _) u0).setCell (p := ⟨W0.heap.size, 1, none⟩) (Nat.le_refl _) u1).setCell (p := ⟨W0.heap.size, 2, none⟩) (Nat.le_refl _) u2) hz0
    have hxc := HX1.out.cell
    have hxf := HX1.out.free
    refine r1R 13 (fun K hK => ?_)
    go_simp
    refine oR hK ?_ (fun hHeld => ?_)
    ·try dsimp only
     exact ⟨(HMs.out _ _ _).arg.cell 0, (HMs.out _ _ _).mb.cell 0, (HMs.out _ _ _).mb.cell 1, (HKB.out _ (HMs.out _ _ _).bl).at k hk⟩
    clear hK K
    refine tkR 14 ?_
    refine wpAnyH_done (by kernel_rfl) ?_ _
    go_wp2_with fail
    go_meet
    exact ⟨W0.heap.size, ba, bB, bc, rfl, rfl, HMs.out _ _ _, bx3 HX1.out _ _ _, Nat.le_refl _, HBV.out⟩
   exact AllReadyH.nil
  case rest =>
  obtain ⟨b6, a, b, c, rfl, rfl, hmv, hx6, hz6, hbv⟩ := hcut
  have HM := Lib.hid hmv
  have HX := Lib.hid hx6
  clear hmc hrc hbc hac hrf hmv hx6
  have hrc := HM.out.res.cell
  have hrf := HM.out.res.free
  by_cases hj5 : ¬ mvJ x (k : Int) l < 5
  ·have HV := Lib.hid (stepO_no (mvOk_st hj5))
   have hd : decide (mvJ x (k : Int) l < 5) = false := decide_eq_false hj5
   rw [hd]
   have HMx := HM
   clear hj5 hd
   go_wp2_with fail
   exact bodyPost_ret (v := .tuple #[nilLn, .bool false]) (by simp [results, Tryz.results83, go_sem, hrc, nilLn]) rfl ⟨(HMx.out.bl.setCell (by dsimp only; omega) _).setCell (by dsimp only; omega) _, .inl ⟨HV.out, rfl⟩⟩
  replace hj5 := Decidable.not_not.1 hj5
  have hd : decide (mvJ x (k : Int) l < 5) = true := decide_eq_true hj5
  rw [hd]
  have HJ5 := Lib.hid hj5
  have HA : Hid ((stB (mvJ x (k : Int) l)).n = a ∧ (stB (mvJ x (k : Int) l)).i = b ∧ (stB (mvJ x (k : Int) l)).o = c) := by
   show _ ∧ _ ∧ _
   unfold bsV at hbv
   rw [if_pos hj5] at hbv
   unfold bkA at hbv
   simpa using hbv
  clear hd hj5 hbv
  go_wp2_with fail
  have hac0 := HM.out.arg.cell 0
  have hac1 := HM.out.arg.cell 1
  have hzc : w.heap.size < wc.heap.size := by have := HM.out.sz; omega
  have HKBc : Hid (∀ w', Below wc.heap.size wc w' → BkC w' bb bo x.n x.N x.I x.O) := fun w' hb => HKB.out _ (HM.out.bl.trans (hb.mono (by omega)))
  have HKTc : Hid (∀ w', Below wc.heap.size wc w' → IC w' tb tu x.m x.T) := fun w' hb => HKT.out _ (HM.out.bl.trans (hb.mono (by omega)))
  generalize hbase : wc = wb at *
  clear hbase
  go_cut [8] (CpC wb wb.heap.size x)
  case first =>
   refine wp_region_held_drew (S := (fun w' => w'.cell? ⟨w.heap.size, 0, none⟩ = some (.slice (some ⟨bb, bo, none⟩) x.n cb) ∧ w'.cell? ⟨w.heap.size, 1, none⟩ = some (.slice (some ⟨tb, tu, none⟩) x.m ct))) (by kernel_rfl) ?_ (fun hHeld => ?_)
   ·try dsimp only
    go_keep
   refine tkR 1 ?_
   refine tkR 2 ?_
   refine tkR 5 ?_
   refine tkR 6 ?_
   have HF0 : Hid (CpF wb wb.drew x none none none) := CpF.start wb x
   generalize wb.drew = wd at *
   refine wpAnyH_ready (rs := [0, 4, 9]) (by kernel_rfl) (by simp) ?_
   refine c1R (fun K hK => ?_) ?_
   focus
     go_simp
     have hf := HF0.out.makeB
     try simp only [World.size_alloc] at hf
     have HF1 := Lib.hid hf
     clear hf
     refine oR hK ?_ (fun hHeld => ?_)
     ·exact cpS hac0 hac1 hzc HF1.out.bl
     clear hK K
     refine wpAnyH_ready (rs := [3, 4, 9]) (by kernel_rfl) (by simp) ?_
     refine c1R (fun K hK => ?_) ?_
     focus
       refine step_app elBk rfl (.tmp 35) (.tmp 37) rfl HF1.out.ownB rfl ⟨bb, bo, none⟩ x.n cb rfl (bk_new (HKBc.out _ HF1.out.bl)) (fun _ _ => bkF_one _ _ _ _) (by unfold maxLen; omega) (by omega) ?_
       intro g1 c1 wa1 ho1 hg1 hd1
       rw [Nat.zero_add] at ho1
       have hf := HF1.out.appB ho1 hg1 hd1
       try simp only [World.size_alloc] at hf
       have HF2 := Lib.hid hf
       clear hf
       clear ho1 hg1 hd1
       try simp only [Nat.zero_add]
       refine oR hK ?_ (fun hHeld => ?_)
       ·exact cpS hac0 hac1 hzc HF2.out.bl
       clear hK K
       refine wpAnyH_ready (rs := [4, 9]) (by kernel_rfl) (by simp) ?_
       refine c1R (fun K hK => ?_) ?_
       focus
         go_simp
         have hf := HF2.out.makeI
         try simp only [World.size_alloc] at hf
         have HF3 := Lib.hid hf
         clear hf
         refine oR hK ?_ (fun hHeld => ?_)
         ·exact cpS hac0 hac1 hzc HF3.out.bl
         clear hK K
         refine wpAnyH_ready (rs := [7, 9]) (by kernel_rfl) (by simp) ?_
         refine c1R (fun K hK => ?_) ?_
         focus
           refine step_app elInt rfl (.tmp 39) (.tmp 41) rfl HF3.out.ownI rfl ⟨tb, tu, none⟩ x.m ct rfl (ic_new (HKTc.out _ HF3.out.bl)) (fun _ _ => rfl) (by unfold maxLen; omega) (by omega) ?_
           intro g2 c2 wa2 ho2 hg2 hd2
           rw [Nat.zero_add] at ho2
           have hf := HF3.out.appI ho2 hg2 hd2
           try simp only [World.size_alloc] at hf
           have HF4 := Lib.hid hf
           clear hf
           clear ho2 hg2 hd2
           try simp only [Nat.zero_add]
           refine oR hK ?_ (fun hHeld => ?_)
           ·exact cpS hac0 hac1 hzc HF4.out.bl
           clear hK K
           refine tkR 8 ?_
           refine r1R 9 (fun K hK => ?_)
           go_simp
           have hf := HF4.out.makeL
           try simp only [World.size_alloc] at hf
           have HF5 := Lib.hid hf
           clear hf
           refine oR hK ?_ (fun hHeld => ?_)
           ·exact cpS hac0 hac1 hzc HF5.out.bl
           clear hK K
           have hcp := HF4.out.doneL
           try simp only [World.size_alloc] at hcp
           have HCP := Lib.hid hcp
           clear hcp
           refine r1R 10 (fun K hK => ?_)
           go_simp
           refine oR hK ?_ (fun hHeld => ?_)
           ·try dsimp only
            exact cpS hac0 hac1 hzc HCP.out.bl
           clear hK K
           refine wpAnyH_done (by kernel_rfl) ?_ _
           go_wp2_with fail
           go_meet
           exact HCP.out
         refine c1R (fun K hK => ?_) ?_
         focus
           go_simp
           have hf := HF3.out.makeL
           try simp only [World.size_alloc] at hf
           have HF4 := Lib.hid hf
           clear hf
           refine oR hK ?_ (fun hHeld => ?_)
           ·exact cpS hac0 hac1 hzc HF4.out.bl
           clear hK K
           refine r1R 7 (fun K hK => ?_)
           refine step_app elInt rfl (.tmp 39) (.tmp 41) rfl HF4.out.ownI rfl ⟨tb, tu, none⟩ x.m ct rfl (ic_new (HKTc.out _ HF4.out.bl)) (fun _ _ => rfl) (by unfold maxLen; omega) (by omega) ?_
           intro g2 c2 wa2 ho2 hg2 hd2
           rw [Nat.zero_add] at ho2
           have hf := HF4.out.appI ho2 hg2 hd2
           try simp only [World.size_alloc] at hf
           have HF5 := Lib.hid hf
           clear hf
           clear ho2 hg2 hd2
           try simp only [Nat.zero_add]
           refine oR hK ?_ (fun hHeld => ?_)
           ·exact cpS hac0 hac1 hzc HF5.out.bl
           clear hK K
           refine tkR 8 ?_
           have hcp := HF5.out.doneS
           try simp only [World.size_alloc] at hcp
           have HCP := Lib.hid hcp
           clear hcp
           have hxc := HF5.out.bx.cell
           have hxf := HF5.out.bx.free
           have hxl := HF5.out.bxl
           try simp only [World.size_alloc] at hxc hxf hxl
           refine r1R 10 (fun K hK => ?_)
           go_simp
           refine oR hK ?_ (fun hHeld => ?_)
           ·try dsimp only
            exact cpS hac0 hac1 hzc HCP.out.bl
           clear hK K
           refine wpAnyH_done (by kernel_rfl) ?_ _
           go_wp2_with fail
           go_meet
           exact HCP.out
         exact AllReadyH.nil
       refine c1R (fun K hK => ?_) ?_
       focus
         go_simp
         have hf := HF2.out.makeL
         try simp only [World.size_alloc] at hf
         have HF3 := Lib.hid hf
         clear hf
         refine oR hK ?_ (fun hHeld => ?_)
         ·exact cpS hac0 hac1 hzc HF3.out.bl
         clear hK K
         refine r1R 4 (fun K hK => ?_)
         go_simp
         have hf := HF3.out.makeI
         try simp only [World.size_alloc] at hf
         have HF4 := Lib.hid hf
         clear hf
         refine oR hK ?_ (fun hHeld => ?_)
         ·exact cpS hac0 hac1 hzc HF4.out.bl
         clear hK K
         refine r1R 7 (fun K hK => ?_)
         refine step_app elInt rfl (.tmp 39) (.tmp 41) rfl HF4.out.ownI rfl ⟨tb, tu, none⟩ x.m ct rfl (ic_new (HKTc.out _ HF4.out.bl)) (fun _ _ => rfl) (by unfold maxLen; omega) (by omega) ?_
         intro g2 c2 wa2 ho2 hg2 hd2
         rw [Nat.zero_add] at ho2
         have hf := HF4.out.appI ho2 hg2 hd2
         try simp only [World.size_alloc] at hf
         have HF5 := Lib.hid hf
         clear hf
         clear ho2 hg2 hd2
         try simp only [Nat.zero_add]
         refine oR hK ?_ (fun hHeld => ?_)
         ·exact cpS hac0 hac1 hzc HF5.out.bl
         clear hK K
         refine tkR 8 ?_
         have hcp := HF5.out.doneS
         try simp only [World.size_alloc] at hcp
         have HCP := Lib.hid hcp
         clear hcp
         have hxc := HF5.out.bx.cell
         have hxf := HF5.out.bx.free
         have hxl := HF5.out.bxl
         try simp only [World.size_alloc] at hxc hxf hxl
         refine r1R 10 (fun K hK => ?_)
         go_simp
         refine oR hK ?_ (fun hHeld => ?_)
         ·try dsimp only
          exact cpS hac0 hac1 hzc HCP.out.bl
         clear hK K
         refine wpAnyH_done (by kernel_rfl) ?_ _
         go_wp2_with fail
         go_meet
         exact HCP.out
       exact AllReadyH.nil
     refine c1R (fun K hK => ?_) ?_
     focus
       go_simp
       have hf := HF1.out.makeI
       try simp only [World.size_alloc] at hf
       have HF2 := Lib.hid hf
       clear hf
       refine oR hK ?_ (fun hHeld => ?_)
       ·exact cpS hac0 hac1 hzc HF2.out.bl
       clear hK K
       refine wpAnyH_ready (rs := [3, 9]) (by kernel_rfl) (by simp) ?_
       refine c1R (fun K hK => ?_) ?_
       focus
         refine step_app elBk rfl (.tmp 35) (.tmp 37) rfl HF2.out.ownB rfl ⟨bb, bo, none⟩ x.n cb rfl (bk_new (HKBc.out _ HF2.out.bl)) (fun _ _ => bkF_one _ _ _ _) (by unfold maxLen; omega) (by omega) ?_
         intro g1 c1 wa1 ho1 hg1 hd1
         rw [Nat.zero_add] at ho1
         have hf := HF2.out.appB ho1 hg1 hd1
         try simp only [World.size_alloc] at hf
         have HF3 := Lib.hid hf
         clear hf
         clear ho1 hg1 hd1
         try simp only [Nat.zero_add]
         refine oR hK ?_ (fun hHeld => ?_)
         ·exact cpS hac0 hac1 hzc HF3.out.bl
         clear hK K
         refine wpAnyH_ready (rs := [7, 9]) (by kernel_rfl) (by simp) ?_
         refine c1R (fun K hK => ?_) ?_
         focus
           refine step_app elInt rfl (.tmp 39) (.tmp 41) rfl HF3.out.ownI rfl ⟨tb, tu, none⟩ x.m ct rfl (ic_new (HKTc.out _ HF3.out.bl)) (fun _ _ => rfl) (by unfold maxLen; omega) (by omega) ?_
           intro g2 c2 wa2 ho2 hg2 hd2
           rw [Nat.zero_add] at ho2
           have hf := HF3.out.appI ho2 hg2 hd2
           try simp only [World.size_alloc] at hf
           have HF4 := Lib.hid hf
           clear hf
           clear ho2 hg2 hd2
           try simp only [Nat.zero_add]
           refine oR hK ?_ (fun hHeld => ?_)
           ·exact cpS hac0 hac1 hzc HF4.out.bl
           clear hK K
           refine tkR 8 ?_
           refine r1R 9 (fun K hK => ?_)
           go_simp
           have hf := HF4.out.makeL
           try simp only [World.size_alloc] at hf
           have HF5 := Lib.hid hf
           clear hf
           refine oR hK ?_ (fun hHeld => ?_)
           ·exact cpS hac0 hac1 hzc HF5.out.bl
           clear hK K
           have hcp := HF4.out.doneL
           try simp only [World.size_alloc] at hcp
           have HCP := Lib.hid hcp
           clear hcp
           refine r1R 10 (fun K hK => ?_)
           go_simp
           refine oR hK ?_ (fun hHeld => ?_)
           ·try dsimp only
            exact cpS hac0 hac1 hzc HCP.out.bl
           clear hK K
           refine wpAnyH_done (by kernel_rfl) ?_ _
           go_wp2_with fail
           go_meet
           exact HCP.out
         refine c1R (fun K hK => ?_) ?_
         focus
           go_simp
           have hf := HF3.out.makeL
           try simp only [World.size_alloc] at hf
           have HF4 := Lib.hid hf
           clear hf
           refine oR hK ?_ (fun hHeld => ?_)
           ·exact cpS hac0 hac1 hzc HF4.out.bl
           clear hK K
           refine r1R 7 (fun K hK => ?_)
           refine step_app elInt rfl (.tmp 39) (.tmp 41) rfl HF4.out.ownI rfl ⟨tb, tu, none⟩ x.m ct rfl (ic_new (HKTc.out _ HF4.out.bl)) (fun _ _ => rfl) (by unfold maxLen; omega) (by omega) ?_
           intro g2 c2 wa2 ho2 hg2 hd2
           rw [Nat.zero_add] at ho2
           have hf := HF4.out.appI ho2 hg2 hd2
           try simp only [World.size_alloc] at hf
           have HF5 := Lib.hid hf
           clear hf
           clear ho2 hg2 hd2
           try simp only [Nat.zero_add]
           refine oR hK ?_ (fun hHeld => ?_)
           ·exact cpS hac0 hac1 hzc HF5.out.bl
           clear hK K
           refine tkR 8 ?_
           have hcp := HF5.out.doneS
           try simp only [World.size_alloc] at hcp
           have HCP := Lib.hid hcp
           clear hcp
           have hxc := HF5.out.bx.cell
           have hxf := HF5.out.bx.free
           have hxl := HF5.out.bxl
           try simp only [World.size_alloc] at hxc hxf hxl
           refine r1R 10 (fun K hK => ?_)
           go_simp
           refine oR hK ?_ (fun hHeld => ?_)
           ·try dsimp only
            exact cpS hac0 hac1 hzc HCP.out.bl
           clear hK K
           refine wpAnyH_done (by kernel_rfl) ?_ _
           go_wp2_with fail
           go_meet
           exact HCP.out
         exact AllReadyH.nil
       refine c1R (fun K hK => ?_) ?_
       focus
         go_simp
         have hf := HF2.out.makeL
         try simp only [World.size_alloc] at hf
         have HF3 := Lib.hid hf
         clear hf
         refine oR hK ?_ (fun hHeld => ?_)
         ·exact cpS hac0 hac1 hzc HF3.out.bl
         clear hK K
         refine r1R 3 (fun K hK => ?_)
         refine step_app elBk rfl (.tmp 35) (.tmp 37) rfl HF3.out.ownB rfl ⟨bb, bo, none⟩ x.n cb rfl (bk_new (HKBc.out _ HF3.out.bl)) (fun _ _ => bkF_one _ _ _ _) (by unfold maxLen; omega) (by omega) ?_
         intro g1 c1 wa1 ho1 hg1 hd1
         rw [Nat.zero_add] at ho1
         have hf := HF3.out.appB ho1 hg1 hd1
         try simp only [World.size_alloc] at hf
         have HF4 := Lib.hid hf
         clear hf
         clear ho1 hg1 hd1
         try simp only [Nat.zero_add]
         refine oR hK ?_ (fun hHeld => ?_)
         ·exact cpS hac0 hac1 hzc HF4.out.bl
         clear hK K
         refine r1R 7 (fun K hK => ?_)
         refine step_app elInt rfl (.tmp 39) (.tmp 41) rfl HF4.out.ownI rfl ⟨tb, tu, none⟩ x.m ct rfl (ic_new (HKTc.out _ HF4.out.bl)) (fun _ _ => rfl) (by unfold maxLen; omega) (by omega) ?_
         intro g2 c2 wa2 ho2 hg2 hd2
         rw [Nat.zero_add] at ho2
         have hf := HF4.out.appI ho2 hg2 hd2
         try simp only [World.size_alloc] at hf
         have HF5 := Lib.hid hf
         clear hf
         clear ho2 hg2 hd2
         try simp only [Nat.zero_add]
         refine oR hK ?_ (fun hHeld => ?_)
         ·exact cpS hac0 hac1 hzc HF5.out.bl
         clear hK K
         refine tkR 8 ?_
         have hcp := HF5.out.doneS
         try simp only [World.size_alloc] at hcp
         have HCP := Lib.hid hcp
         clear hcp
         have hxc := HF5.out.bx.cell
         have hxf := HF5.out.bx.free
         have hxl := HF5.out.bxl
         try simp only [World.size_alloc] at hxc hxf hxl
         refine r1R 10 (fun K hK => ?_)
         go_simp
         refine oR hK ?_ (fun hHeld => ?_)
         ·try dsimp only
          exact cpS hac0 hac1 hzc HCP.out.bl
         clear hK K
         refine wpAnyH_done (by kernel_rfl) ?_ _
         go_wp2_with fail
         go_meet
         exact HCP.out
       exact AllReadyH.nil
     refine c1R (fun K hK => ?_) ?_
     focus
       go_simp
       have hf := HF1.out.makeL
       try simp only [World.size_alloc] at hf
       have HF2 := Lib.hid hf
       clear hf
       refine oR hK ?_ (fun hHeld => ?_)
       ·exact cpS hac0 hac1 hzc HF2.out.bl
       clear hK K
       refine wpAnyH_ready (rs := [3, 4]) (by kernel_rfl) (by simp) ?_
       refine c1R (fun K hK => ?_) ?_
       focus
         refine step_app elBk rfl (.tmp 35) (.tmp 37) rfl HF2.out.ownB rfl ⟨bb, bo, none⟩ x.n cb rfl (bk_new (HKBc.out _ HF2.out.bl)) (fun _ _ => bkF_one _ _ _ _) (by unfold maxLen; omega) (by omega) ?_
         intro g1 c1 wa1 ho1 hg1 hd1
         rw [Nat.zero_add] at ho1
         have hf := HF2.out.appB ho1 hg1 hd1
         try simp only [World.size_alloc] at hf
         have HF3 := Lib.hid hf
         clear hf
         clear ho1 hg1 hd1
         try simp only [Nat.zero_add]
         refine oR hK ?_ (fun hHeld => ?_)
         ·exact cpS hac0 hac1 hzc HF3.out.bl
         clear hK K
         refine r1R 4 (fun K hK => ?_)
         go_simp
         have hf := HF3.out.makeI
         try simp only [World.size_alloc] at hf
         have HF4 := Lib.hid hf
         clear hf
         refine oR hK ?_ (fun hHeld => ?_)
         ·exact cpS hac0 hac1 hzc HF4.out.bl
         clear hK K
         refine r1R 7 (fun K hK => ?_)
         refine step_app elInt rfl (.tmp 39) (.tmp 41) rfl HF4.out.ownI rfl ⟨tb, tu, none⟩ x.m ct rfl (ic_new (HKTc.out _ HF4.out.bl)) (fun _ _ => rfl) (by unfold maxLen; omega) (by omega) ?_
         intro g2 c2 wa2 ho2 hg2 hd2
         rw [Nat.zero_add] at ho2
         have hf := HF4.out.appI ho2 hg2 hd2
         try simp only [World.size_alloc] at hf
         have HF5 := Lib.hid hf
         clear hf
         clear ho2 hg2 hd2
         try simp only [Nat.zero_add]
         refine oR hK ?_ (fun hHeld => ?_)
         ·exact cpS hac0 hac1 hzc HF5.out.bl
         clear hK K
         refine tkR 8 ?_
         have hcp := HF5.out.doneS
         try simp only [World.size_alloc] at hcp
         have HCP := Lib.hid hcp
         clear hcp
         have hxc := HF5.out.bx.cell
         have hxf := HF5.out.bx.free
         have hxl := HF5.out.bxl
         try simp only [World.size_alloc] at hxc hxf hxl
         refine r1R 10 (fun K hK => ?_)
         go_simp
         refine oR hK ?_ (fun hHeld => ?_)
         ·try dsimp only
          exact cpS hac0 hac1 hzc HCP.out.bl
         clear hK K
         refine wpAnyH_done (by kernel_rfl) ?_ _
         go_wp2_with fail
         go_meet
         exact HCP.out
       refine c1R (fun K hK => ?_) ?_
       focus
         go_simp
         have hf := HF2.out.makeI
         try simp only [World.size_alloc] at hf
         have HF3 := Lib.hid hf
         clear hf
         refine oR hK ?_ (fun hHeld => ?_)
         ·exact cpS hac0 hac1 hzc HF3.out.bl
         clear hK K
         refine r1R 3 (fun K hK => ?_)
         refine step_app elBk rfl (.tmp 35) (.tmp 37) rfl HF3.out.ownB rfl ⟨bb, bo, none⟩ x.n cb rfl (bk_new (HKBc.out _ HF3.out.bl)) (fun _ _ => bkF_one _ _ _ _) (by unfold maxLen; omega) (by omega) ?_
         intro g1 c1 wa1 ho1 hg1 hd1
         rw [Nat.zero_add] at ho1
         have hf := HF3.out.appB ho1 hg1 hd1
         try simp only [World.size_alloc] at hf
         have HF4 := Lib.hid hf
         clear hf
         clear ho1 hg1 hd1
         try simp only [Nat.zero_add]
         refine oR hK ?_ (fun hHeld => ?_)
         ·exact cpS hac0 hac1 hzc HF4.out.bl
         clear hK K
         refine r1R 7 (fun K hK => ?_)
         refine step_app elInt rfl (.tmp 39) (.tmp 41) rfl HF4.out.ownI rfl ⟨tb, tu, none⟩ x.m ct rfl (ic_new (HKTc.out _ HF4.out.bl)) (fun _ _ => rfl) (by unfold maxLen; omega) (by omega) ?_
         intro g2 c2 wa2 ho2 hg2 hd2
         rw [Nat.zero_add] at ho2
         have hf := HF4.out.appI ho2 hg2 hd2
         try simp only [World.size_alloc] at hf
         have HF5 := Lib.hid hf
         clear hf
         clear ho2 hg2 hd2
         try simp only [Nat.zero_add]
         refine oR hK ?_ (fun hHeld => ?_)
         ·exact cpS hac0 hac1 hzc HF5.out.bl
         clear hK K
         refine tkR 8 ?_
         have hcp := HF5.out.doneS
         try simp only [World.size_alloc] at hcp
         have HCP := Lib.hid hcp
         clear hcp
         have hxc := HF5.out.bx.cell
         have hxf := HF5.out.bx.free
         have hxl := HF5.out.bxl
         try simp only [World.size_alloc] at hxc hxf hxl
         refine r1R 10 (fun K hK => ?_)
         go_simp
         refine oR hK ?_ (fun hHeld => ?_)
         ·try dsimp only
          exact cpS hac0 hac1 hzc HCP.out.bl
         clear hK K
         refine wpAnyH_done (by kernel_rfl) ?_ _
         go_wp2_with fail
         go_meet
         exact HCP.out
       exact AllReadyH.nil
     exact AllReadyH.nil
   refine c1R (fun K hK => ?_) ?_
   focus
     go_simp
     have hf := HF0.out.makeI
     try simp only [World.size_alloc] at hf
     have HF1 := Lib.hid hf
     clear hf
     refine oR hK ?_ (fun hHeld => ?_)
     ·exact cpS hac0 hac1 hzc HF1.out.bl
     clear hK K
     refine wpAnyH_ready (rs := [0, 9]) (by kernel_rfl) (by simp) ?_
     refine c1R (fun K hK => ?_) ?_
     focus
       go_simp
       have hf := HF1.out.makeB
       try simp only [World.size_alloc] at hf
       have HF2 := Lib.hid hf
       clear hf
       refine oR hK ?_ (fun hHeld => ?_)
       ·exact cpS hac0 hac1 hzc HF2.out.bl
       clear hK K
       refine wpAnyH_ready (rs := [3, 9]) (by kernel_rfl) (by simp) ?_
       refine c1R (fun K hK => ?_) ?_
       focus
         refine step_app elBk rfl (.tmp 35) (.tmp 37) rfl HF2.out.ownB rfl ⟨bb, bo, none⟩ x.n cb rfl (bk_new (HKBc.out _ HF2.out.bl)) (fun _ _ => bkF_one _ _ _ _) (by unfold maxLen; omega) (by omega) ?_
         intro g1 c1 wa1 ho1 hg1 hd1
         rw [Nat.zero_add] at ho1
         have hf := HF2.out.appB ho1 hg1 hd1
         try simp only [World.size_alloc] at hf
         have HF3 := Lib.hid hf
         clear hf
         clear ho1 hg1 hd1
         try simp only [Nat.zero_add]
         refine oR hK ?_ (fun hHeld => ?_)
         ·exact cpS hac0 hac1 hzc HF3.out.bl
         clear hK K
         refine wpAnyH_ready (rs := [7, 9]) (by kernel_rfl) (by simp) ?_
         refine c1R (fun K hK => ?_) ?_
         focus
           refine step_app elInt rfl (.tmp 39) (.tmp 41) rfl HF3.out.ownI rfl ⟨tb, tu, none⟩ x.m ct rfl (ic_new (HKTc.out _ HF3.out.bl)) (fun _ _ => rfl) (by unfold maxLen; omega) (by omega) ?_
           intro g2 c2 wa2 ho2 hg2 hd2
           rw [Nat.zero_add] at ho2
           have hf := HF3.out.appI ho2 hg2 hd2
           try simp only [World.size_alloc] at hf
           have HF4 := Lib.hid hf
           clear hf
           clear ho2 hg2 hd2
           try simp only [Nat.zero_add]
           refine oR hK ?_ (fun hHeld => ?_)
           ·exact cpS hac0 hac1 hzc HF4.out.bl
           clear hK K
           refine tkR 8 ?_
           refine r1R 9 (fun K hK => ?_)
           go_simp
           have hf := HF4.out.makeL
           try simp only [World.size_alloc] at hf
           have HF5 := Lib.hid hf
           clear hf
           refine oR hK ?_ (fun hHeld => ?_)
           ·exact cpS hac0 hac1 hzc HF5.out.bl
           clear hK K
           have hcp := HF4.out.doneL
           try simp only [World.size_alloc] at hcp
           have HCP := Lib.hid hcp
           clear hcp
           refine r1R 10 (fun K hK => ?_)
           go_simp
           refine oR hK ?_ (fun hHeld => ?_)
           ·try dsimp only
            exact cpS hac0 hac1 hzc HCP.out.bl
           clear hK K
           refine wpAnyH_done (by kernel_rfl) ?_ _
           go_wp2_with fail
           go_meet
           exact HCP.out
         refine c1R (fun K hK => ?_) ?_
         focus
           go_simp
           have hf := HF3.out.makeL
           try simp only [World.size_alloc] at hf
           have HF4 := Lib.hid hf
           clear hf
           refine oR hK ?_ (fun hHeld => ?_)
           ·exact cpS hac0 hac1 hzc HF4.out.bl
           clear hK K
           refine r1R 7 (fun K hK => ?_)
           refine step_app elInt rfl (.tmp 39) (.tmp 41) rfl HF4.out.ownI rfl ⟨tb, tu, none⟩ x.m ct rfl (ic_new (HKTc.out _ HF4.out.bl)) (fun _ _ => rfl) (by unfold maxLen; omega) (by omega) ?_
           intro g2 c2 wa2 ho2 hg2 hd2
           rw [Nat.zero_add] at ho2
           have hf := HF4.out.appI ho2 hg2 hd2
           try simp only [World.size_alloc] at hf
           have HF5 := Lib.hid hf
           clear hf
           clear ho2 hg2 hd2
           try simp only [Nat.zero_add]
           refine oR hK ?_ (fun hHeld => ?_)
           ·exact cpS hac0 hac1 hzc HF5.out.bl
           clear hK K
           refine tkR 8 ?_
           have hcp := HF5.out.doneS
           try simp only [World.size_alloc] at hcp
           have HCP := Lib.hid hcp
           clear hcp
           have hxc := HF5.out.bx.cell
           have hxf := HF5.out.bx.free
           have hxl := HF5.out.bxl
           try simp only [World.size_alloc] at hxc hxf hxl
           refine r1R 10 (fun K hK => ?_)
           go_simp
           refine oR hK ?_ (fun hHeld => ?_)
           ·try dsimp only
            exact cpS hac0 hac1 hzc HCP.out.bl
           clear hK K
           refine wpAnyH_done (by kernel_rfl) ?_ _
           go_wp2_with fail
           go_meet
           exact HCP.out
         exact AllReadyH.nil
       refine c1R (fun K hK => ?_) ?_
       focus
         go_simp
         have hf := HF2.out.makeL
         try simp only [World.size_alloc] at hf
         have HF3 := Lib.hid hf
         clear hf
         refine oR hK ?_ (fun hHeld => ?_)
         ·exact cpS hac0 hac1 hzc HF3.out.bl
         clear hK K
         refine r1R 3 (fun K hK => ?_)
         refine step_app elBk rfl (.tmp 35) (.tmp 37) rfl HF3.out.ownB rfl ⟨bb, bo, none⟩ x.n cb rfl (bk_new (HKBc.out _ HF3.out.bl)) (fun _ _ => bkF_one _ _ _ _) (by unfold maxLen; omega) (by omega) ?_
         intro g1 c1 wa1 ho1 hg1 hd1
         rw [Nat.zero_add] at ho1
         have hf := HF3.out.appB ho1 hg1 hd1
         try simp only [World.size_alloc] at hf
         have HF4 := Lib.hid hf
         clear hf
         clear ho1 hg1 hd1
         try simp only [Nat.zero_add]
         refine oR hK ?_ (fun hHeld => ?_)
         ·exact cpS hac0 hac1 hzc HF4.out.bl
         clear hK K
         refine r1R 7 (fun K hK => ?_)
         refine step_app elInt rfl (.tmp 39) (.tmp 41) rfl HF4.out.ownI rfl ⟨tb, tu, none⟩ x.m ct rfl (ic_new (HKTc.out _ HF4.out.bl)) (fun _ _ => rfl) (by unfold maxLen; omega) (by omega) ?_
         intro g2 c2 wa2 ho2 hg2 hd2
         rw [Nat.zero_add] at ho2
         have hf := HF4.out.appI ho2 hg2 hd2
         try simp only [World.size_alloc] at hf
         have HF5 := Lib.hid hf
         clear hf
         clear ho2 hg2 hd2
         try simp only [Nat.zero_add]
         refine oR hK ?_ (fun hHeld => ?_)
         ·exact cpS hac0 hac1 hzc HF5.out.bl
         clear hK K
         refine tkR 8 ?_
         have hcp := HF5.out.doneS
         try simp only [World.size_alloc] at hcp
         have HCP := Lib.hid hcp
         clear hcp
         have hxc := HF5.out.bx.cell
         have hxf := HF5.out.bx.free
         have hxl := HF5.out.bxl
         try simp only [World.size_alloc] at hxc hxf hxl
         refine r1R 10 (fun K hK => ?_)
         go_simp
         refine oR hK ?_ (fun hHeld => ?_)
         ·try dsimp only
          exact cpS hac0 hac1 hzc HCP.out.bl
         clear hK K
         refine wpAnyH_done (by kernel_rfl) ?_ _
         go_wp2_with fail
         go_meet
         exact HCP.out
       exact AllReadyH.nil
     refine c1R (fun K hK => ?_) ?_
     focus
       go_simp
       have hf := HF1.out.makeL
       try simp only [World.size_alloc] at hf
       have HF2 := Lib.hid hf
       clear hf
       refine oR hK ?_ (fun hHeld => ?_)
       ·exact cpS hac0 hac1 hzc HF2.out.bl
       clear hK K
       refine r1R 0 (fun K hK => ?_)
       go_simp
       have hf := HF2.out.makeB
       try simp only [World.size_alloc] at hf
       have HF3 := Lib.hid hf
       clear hf
       refine oR hK ?_ (fun hHeld => ?_)
       ·exact cpS hac0 hac1 hzc HF3.out.bl
       clear hK K
       refine r1R 3 (fun K hK => ?_)
       refine step_app elBk rfl (.tmp 35) (.tmp 37) rfl HF3.out.ownB rfl ⟨bb, bo, none⟩ x.n cb rfl (bk_new (HKBc.out _ HF3.out.bl)) (fun _ _ => bkF_one _ _ _ _) (by unfold maxLen; omega) (by omega) ?_
       intro g1 c1 wa1 ho1 hg1 hd1
       rw [Nat.zero_add] at ho1
       have hf := HF3.out.appB ho1 hg1 hd1
       try simp only [World.size_alloc] at hf
       have HF4 := Lib.hid hf
       clear hf
       clear ho1 hg1 hd1
       try simp only [Nat.zero_add]
       refine oR hK ?_ (fun hHeld => ?_)
       ·exact cpS hac0 hac1 hzc HF4.out.bl
       clear hK K
       refine r1R 7 (fun K hK => ?_)
       refine step_app elInt rfl (.tmp 39) (.tmp 41) rfl HF4.out.ownI rfl ⟨tb, tu, none⟩ x.m ct rfl (ic_new (HKTc.out _ HF4.out.bl)) (fun _ _ => rfl) (by unfold maxLen; omega) (by omega) ?_
       intro g2 c2 wa2 ho2 hg2 hd2
       rw [Nat.zero_add] at ho2
       have hf := HF4.out.appI ho2 hg2 hd2
       try simp only [World.size_alloc] at hf
       have HF5 := Lib.hid hf
       clear hf
       clear ho2 hg2 hd2
       try simp only [Nat.zero_add]
       refine oR hK ?_ (fun hHeld => ?_)
       ·exact cpS hac0 hac1 hzc HF5.out.bl
       clear hK K
       refine tkR 8 ?_
       have hcp := HF5.out.doneS
       try simp only [World.size_alloc] at hcp
       have HCP := Lib.hid hcp
       clear hcp
       have hxc := HF5.out.bx.cell
       have hxf := HF5.out.bx.free
       have hxl := HF5.out.bxl
       try simp only [World.size_alloc] at hxc hxf hxl
       refine r1R 10 (fun K hK => ?_)
       go_simp
       refine oR hK ?_ (fun hHeld => ?_)
       ·try dsimp only
        exact cpS hac0 hac1 hzc HCP.out.bl
       clear hK K
       refine wpAnyH_done (by kernel_rfl) ?_ _
       go_wp2_with fail
       go_meet
       exact HCP.out
     exact AllReadyH.nil
   refine c1R (fun K hK => ?_) ?_
   focus
     go_simp
     have hf := HF0.out.makeL
     try simp only [World.size_alloc] at hf
     have HF1 := Lib.hid hf
     clear hf
     refine oR hK ?_ (fun hHeld => ?_)
     ·exact cpS hac0 hac1 hzc HF1.out.bl
     clear hK K
     refine wpAnyH_ready (rs := [0, 4]) (by kernel_rfl) (by simp) ?_
     refine c1R (fun K hK => ?_) ?_
     focus
       go_simp
       have hf := HF1.out.makeB
       try simp only [World.size_alloc] at hf
       have HF2 := Lib.hid hf
       clear hf
       refine oR hK ?_ (fun hHeld => ?_)
       ·exact cpS hac0 hac1 hzc HF2.out.bl
       clear hK K
       refine wpAnyH_ready (rs := [3, 4]) (by kernel_rfl) (by simp) ?_
       refine c1R (fun K hK => ?_) ?_
       focus
         refine step_app elBk rfl (.tmp 35) (.tmp 37) rfl HF2.out.ownB rfl ⟨bb, bo, none⟩ x.n cb rfl (bk_new (HKBc.out _ HF2.out.bl)) (fun _ _ => bkF_one _ _ _ _) (by unfold maxLen; omega) (by omega) ?_
         intro g1 c1 wa1 ho1 hg1 hd1
         rw [Nat.zero_add] at ho1
         have hf := HF2.out.appB ho1 hg1 hd1
         try simp only [World.size_alloc] at hf
         have HF3 := Lib.hid hf
         clear hf
         clear ho1 hg1 hd1
         try simp only [Nat.zero_add]
         refine oR hK ?_ (fun hHeld => ?_)
         ·exact cpS hac0 hac1 hzc HF3.out.bl
         clear hK K
         refine r1R 4 (fun K hK => ?_)
         go_simp
         have hf := HF3.out.makeI
         try simp only [World.size_alloc] at hf
         have HF4 := Lib.hid hf
         clear hf
         refine oR hK ?_ (fun hHeld => ?_)
         ·exact cpS hac0 hac1 hzc HF4.out.bl
         clear hK K
         refine r1R 7 (fun K hK => ?_)
         refine step_app elInt rfl (.tmp 39) (.tmp 41) rfl HF4.out.ownI rfl ⟨tb, tu, none⟩ x.m ct rfl (ic_new (HKTc.out _ HF4.out.bl)) (fun _ _ => rfl) (by unfold maxLen; omega) (by omega) ?_
         intro g2 c2 wa2 ho2 hg2 hd2
         rw [Nat.zero_add] at ho2
         have hf := HF4.out.appI ho2 hg2 hd2
         try simp only [World.size_alloc] at hf
         have HF5 := Lib.hid hf
         clear hf
         clear ho2 hg2 hd2
         try simp only [Nat.zero_add]
         refine oR hK ?_ (fun hHeld => ?_)
         ·exact cpS hac0 hac1 hzc HF5.out.bl
         clear hK K
         refine tkR 8 ?_
         have hcp := HF5.out.doneS
         try simp only [World.size_alloc] at hcp
         have HCP := Lib.hid hcp
         clear hcp
         have hxc := HF5.out.bx.cell
         have hxf := HF5.out.bx.free
         have hxl := HF5.out.bxl
         try simp only [World.size_alloc] at hxc hxf hxl
         refine r1R 10 (fun K hK => ?_)
         go_simp
         refine oR hK ?_ (fun hHeld => ?_)
         ·try dsimp only
          exact cpS hac0 hac1 hzc HCP.out.bl
         clear hK K
         refine wpAnyH_done (by kernel_rfl) ?_ _
         go_wp2_with fail
         go_meet
         exact HCP.out
       refine c1R (fun K hK => ?_) ?_
       focus
         go_simp
         have hf := HF2.out.makeI
         try simp only [World.size_alloc] at hf
         have HF3 := Lib.hid hf
         clear hf
         refine oR hK ?_ (fun hHeld => ?_)
         ·exact cpS hac0 hac1 hzc HF3.out.bl
         clear hK K
         refine r1R 3 (fun K hK => ?_)
         refine step_app elBk rfl (.tmp 35) (.tmp 37) rfl HF3.out.ownB rfl ⟨bb, bo, none⟩ x.n cb rfl (bk_new (HKBc.out _ HF3.out.bl)) (fun _ _ => bkF_one _ _ _ _) (by unfold maxLen; omega) (by omega) ?_
         intro g1 c1 wa1 ho1 hg1 hd1
         rw [Nat.zero_add] at ho1
         have hf := HF3.out.appB ho1 hg1 hd1
         try simp only [World.size_alloc] at hf
         have HF4 := Lib.hid hf
         clear hf
         clear ho1 hg1 hd1
         try simp only [Nat.zero_add]
         refine oR hK ?_ (fun hHeld => ?_)
         ·exact cpS hac0 hac1 hzc HF4.out.bl
         clear hK K
         refine r1R 7 (fun K hK => ?_)
         refine step_app elInt rfl (.tmp 39) (.tmp 41) rfl HF4.out.ownI rfl ⟨tb, tu, none⟩ x.m ct rfl (ic_new (HKTc.out _ HF4.out.bl)) (fun _ _ => rfl) (by unfold maxLen; omega) (by omega) ?_
         intro g2 c2 wa2 ho2 hg2 hd2
         rw [Nat.zero_add] at ho2
         have hf := HF4.out.appI ho2 hg2 hd2
         try simp only [World.size_alloc] at hf
         have HF5 := Lib.hid hf
         clear hf
         clear ho2 hg2 hd2
         try simp only [Nat.zero_add]
         refine oR hK ?_ (fun hHeld => ?_)
         ·exact cpS hac0 hac1 hzc HF5.out.bl
         clear hK K
         refine tkR 8 ?_
         have hcp := HF5.out.doneS
         try simp only [World.size_alloc] at hcp
         have HCP := Lib.hid hcp
         clear hcp
         have hxc := HF5.out.bx.cell
         have hxf := HF5.out.bx.free
         have hxl := HF5.out.bxl
         try simp only [World.size_alloc] at hxc hxf hxl
         refine r1R 10 (fun K hK => ?_)
         go_simp
         refine oR hK ?_ (fun hHeld => ?_)
         ·try dsimp only
          exact cpS hac0 hac1 hzc HCP.out.bl
         clear hK K
         refine wpAnyH_done (by kernel_rfl) ?_ _
         go_wp2_with fail
         go_meet
         exact HCP.out
       exact AllReadyH.nil
     refine c1R (fun K hK => ?_) ?_
     focus
       go_simp
       have hf := HF1.out.makeI
       try simp only [World.size_alloc] at hf
       have HF2 := Lib.hid hf
       clear hf
       refine oR hK ?_ (fun hHeld => ?_)
       ·exact cpS hac0 hac1 hzc HF2.out.bl
       clear hK K
       refine r1R 0 (fun K hK => ?_)
       go_simp
       have hf := HF2.out.makeB
       try simp only [World.size_alloc] at hf
       have HF3 := Lib.hid hf
       clear hf
       refine oR hK ?_ (fun hHeld => ?_)
       ·exact cpS hac0 hac1 hzc HF3.out.bl
       clear hK K
       refine r1R 3 (fun K hK => ?_)
       refine step_app elBk rfl (.tmp 35) (.tmp 37) rfl HF3.out.ownB rfl ⟨bb, bo, none⟩ x.n cb rfl (bk_new (HKBc.out _ HF3.out.bl)) (fun _ _ => bkF_one _ _ _ _) (by unfold maxLen; omega) (by omega) ?_
       intro g1 c1 wa1 ho1 hg1 hd1
       rw [Nat.zero_add] at ho1
       have hf := HF3.out.appB ho1 hg1 hd1
       try simp only [World.size_alloc] at hf
       have HF4 := Lib.hid hf
       clear hf
       clear ho1 hg1 hd1
       try simp only [Nat.zero_add]
       refine oR hK ?_ (fun hHeld => ?_)
       ·exact cpS hac0 hac1 hzc HF4.out.bl
       clear hK K
       refine r1R 7 (fun K hK => ?_)
       refine step_app elInt rfl (.tmp 39) (.tmp 41) rfl HF4.out.ownI rfl ⟨tb, tu, none⟩ x.m ct rfl (ic_new (HKTc.out _ HF4.out.bl)) (fun _ _ => rfl) (by unfold maxLen; omega) (by omega) ?_
       intro g2 c2 wa2 ho2 hg2 hd2
       rw [Nat.zero_add] at ho2
       have hf := HF4.out.appI ho2 hg2 hd2
       try simp only [World.size_alloc] at hf
       have HF5 := Lib.hid hf
       clear hf
       clear ho2 hg2 hd2
       try simp only [Nat.zero_add]
       refine oR hK ?_ (fun hHeld => ?_)
       ·exact cpS hac0 hac1 hzc HF5.out.bl
       clear hK K
       refine tkR 8 ?_
       have hcp := HF5.out.doneS
       try simp only [World.size_alloc] at hcp
       have HCP := Lib.hid hcp
       clear hcp
       have hxc := HF5.out.bx.cell
       have hxf := HF5.out.bx.free
       have hxl := HF5.out.bxl
       try simp only [World.size_alloc] at hxc hxf hxl
       refine r1R 10 (fun K hK => ?_)
       go_simp
       refine oR hK ?_ (fun hHeld => ?_)
       ·try dsimp only
        exact cpS hac0 hac1 hzc HCP.out.bl
       clear hK K
       refine wpAnyH_done (by kernel_rfl) ?_ _
       go_wp2_with fail
       go_meet
       exact HCP.out
     exact AllReadyH.nil
   exact AllReadyH.nil
  case rest =>
  obtain ⟨b8, g1, c1, g2, c2, rfl, hx8, ho1, ho2, y8, y1, y2, d1, d2, d3, hb⟩ := hcut
  have hzb := HM.out.sz
  have HS : Hid (SfM w wc (.slice (some ⟨bb, bo, none⟩) x.n cb) (.slice (some ⟨tb, tu, none⟩) x.m ct) (k : Int) l b8 g1 c1 g2 c2 x) := ⟨HM.out.below hb hzb, hx8, ho1, ho2, by omega, by omega, by omega, d1, d2, d3⟩
  have HX6 := Lib.hid (HX.out.below hb HX.out.lt)
  have h6n : b6 ≠ g1 ∧ b6 < wb.heap.size := ⟨by have := HX.out.lt; omega, HX.out.lt⟩
  clear hx8 ho1 ho2 hb hrc hrf hac0 hac1
  have hx6 := HX6.out.cell
  have hx8 := HS.out.box.cell
  have hmc := HS.out.st.mb.cell
  have hgc := HS.out.bl hk
  have hgf := HS.out.bs.free
  have hac := HS.out.st.arg.cell
  have hz1 := HS.out.z1
  have hz2 := HS.out.z2
  have hm1 : w.heap.size + 1 ≠ g1 := by omega
  have hm0 : w.heap.size ≠ g1 := by omega
  have HS7 := Lib.hid (HS.out.setBk k a b c)
  by_cases e1 : l = ⟨#[101]⟩
  ·have HELp : (eB l || lB l) = true ∧ plI (k : Int) l = 2 * (k : Int) := by
    have h : eB l = true := decide_eq_true e1
    exact ⟨by rw [h]; rfl, if_pos h⟩
   have t1 := tl_some e1
   have t2 : (l.toList == [108]) = false := tl_one (by rw [e1]; simp)
   clear e1
   have HEL : Hid ((eB l || lB l) = true ∧ plI (k : Int) l = (2 * (k : Int))) := HELp
   obtain ⟨j, hj⟩ : ∃ j, j = fstA x.T (2 * (k : Int)) x.m := ⟨_, rfl⟩
   have HIX : Hid (∀ W, Below w.heap.size w W → Calls Tryz.prog 110 #[.agg #[.slice (some ⟨bb, bo, none⟩) x.n cb, .slice (some ⟨tb, tu, none⟩) x.m ct], .int .i64 (2 * (k : Int))] W fun e w' => e = .returned (.int .i64 (if j < x.m then (j : Int) else -1)) ∧ Below W.heap.size W w') := fun W hW => by
    rw [hj]
    exact l4At_any bb bo cb tb tu ct x (2 * (k : Int)) W hm (HKT.out _ hW)
   have HS7 := Lib.hid (HS.out.setBk k a b c)
   by_cases hjm : ¬ j < x.m
   ·have HV := Lib.hid (stepO_no (mvOk_tr HEL.out.1 (show ¬ fstA x.T (plI (k : Int) l) x.m < x.m by rw [HEL.out.2, ← hj]; exact hjm)))
    have HIF : Hid ((if j < x.m then (j : Int) else -1) = -1) := if_neg hjm
    clear hjm hj
    go_wp2_with fail
    refine (HIX.out _ HS7.out.st.bl).mono ?_
    rintro e w2 ⟨rfl, hb2⟩
    have HS8 := Lib.hid (HS7.out.below hb2)
    rw [HIF.out]
    clear hb2
    have hrc := HS8.out.st.res.cell
    have hrf := HS8.out.st.res.free
    go_wp2_with fail
    exact bodyPost_ret (v := .tuple #[nilLn, .bool false]) (by simp [results, Tryz.results83, go_sem, hrc, nilLn]) rfl ⟨(HS8.out.st.bl.setCell (p := ⟨w.heap.size + 1 + 1, 0, none⟩) (by dsimp only; omega) _).setCell (p := ⟨w.heap.size + 1 + 1, 1, none⟩) (by dsimp only; omega) _, .inl ⟨HV.out, rfl⟩⟩
   replace hjm := Decidable.not_not.1 hjm
   have HYES : Hid (stepO x (k : Int) l = some (mvTo x (k : Int) l)) := stepO_yes (mvOk_yes HKL.out HJ5.out (.inr (by rw [HEL.out.2, ← hj]; exact hjm)))
   have HT : Hid (mvTo x (k : Int) l = { n := x.n, N := upd x.N k a, I := upd x.I k b, O := upd x.O k c, m := x.m, T := upd x.T j ((2 * (k : Int)) + 1) }) := by
    show _ = _
    obtain ⟨a1, a2, a3⟩ := HA.out
    unfold mvTo
    rw [if_pos HEL.out.1, HEL.out.2, ← hj, a1, a2, a3]
    rfl
   have HIF : Hid ((if j < x.m then (j : Int) else -1) = j) := if_pos hjm
   clear hj
   have hjI : (j : Int) < (x.m : Int) := by omega
   go_wp2_with fail
   refine (HIX.out _ HS7.out.st.bl).mono ?_
   rintro e w2 ⟨rfl, hb2⟩
   have HS8 := Lib.hid (HS7.out.below hb2)
   rw [HIF.out]
   clear hb2
   have hx8 := HS8.out.box.cell
   have htf := HS8.out.ts.free
   have htc := HS8.out.ts.cell1 hjm
   have hrc := HS8.out.st.res.cell
   have hrf := HS8.out.st.res.free
   have HS9 := Lib.hid (HS8.out.setTr j ((2 * (k : Int)) + 1))
   have hm2 : w.heap.size + 1 + 1 ≠ g2 := by omega
   have hm8 : b8 ≠ g2 := HS8.out.d2
   go_wp2_with fail
   exact bodyPost_ret (v := .tuple #[.agg #[.slice (some ⟨g1, 0, none⟩) x.n c1, .slice (some ⟨g2, 0, none⟩) x.m c2], .bool true]) (by simp [results, Tryz.results83, go_sem, hrc, hm2]) rfl ⟨(HS9.out.done _ _).2, .inr ⟨_, _, HYES.out, rfl, by rw [HT.out]; exact (HS9.out.done _ _).1⟩⟩
  by_cases e2 : l = ⟨#[108]⟩
  ·have HELp : (eB l || lB l) = true ∧ plI (k : Int) l = 2 * (k : Int) + 1 := by
    have h1 : eB l = false := decide_eq_false e1
    have h2 : lB l = true := decide_eq_true e2
    refine ⟨by rw [h1, h2]; rfl, ?_⟩
    unfold plI
    rw [if_neg (by simp [h1]), if_pos h2]
   have t1 := tl_one e1
   have t2 := tl_some e2
   clear e1 e2
   have HEL : Hid ((eB l || lB l) = true ∧ plI (k : Int) l = (2 * (k : Int) + 1)) := HELp
   obtain ⟨j, hj⟩ : ∃ j, j = fstA x.T (2 * (k : Int) + 1) x.m := ⟨_, rfl⟩
   have HIX : Hid (∀ W, Below w.heap.size w W → Calls Tryz.prog 110 #[.agg #[.slice (some ⟨bb, bo, none⟩) x.n cb, .slice (some ⟨tb, tu, none⟩) x.m ct], .int .i64 (2 * (k : Int) + 1)] W fun e w' => e = .returned (.int .i64 (if j < x.m then (j : Int) else -1)) ∧ Below W.heap.size W w') := fun W hW => by
    rw [hj]
    exact l4At_any bb bo cb tb tu ct x (2 * (k : Int) + 1) W hm (HKT.out _ hW)
   have HS7 := Lib.hid (HS.out.setBk k a b c)
   by_cases hjm : ¬ j < x.m
   ·have HV := Lib.hid (stepO_no (mvOk_tr HEL.out.1 (show ¬ fstA x.T (plI (k : Int) l) x.m < x.m by rw [HEL.out.2, ← hj]; exact hjm)))
    have HIF : Hid ((if j < x.m then (j : Int) else -1) = -1) := if_neg hjm
    clear hjm hj
    go_wp2_with fail
    refine (HIX.out _ HS7.out.st.bl).mono ?_
    rintro e w2 ⟨rfl, hb2⟩
    have HS8 := Lib.hid (HS7.out.below hb2)
    rw [HIF.out]
    clear hb2
    have hrc := HS8.out.st.res.cell
    have hrf := HS8.out.st.res.free
    go_wp2_with fail
    exact bodyPost_ret (v := .tuple #[nilLn, .bool false]) (by simp [results, Tryz.results83, go_sem, hrc, nilLn]) rfl ⟨(HS8.out.st.bl.setCell (p := ⟨w.heap.size + 1 + 1, 0, none⟩) (by dsimp only; omega) _).setCell (p := ⟨w.heap.size + 1 + 1, 1, none⟩) (by dsimp only; omega) _, .inl ⟨HV.out, rfl⟩⟩
   replace hjm := Decidable.not_not.1 hjm
   have HYES : Hid (stepO x (k : Int) l = some (mvTo x (k : Int) l)) := stepO_yes (mvOk_yes HKL.out HJ5.out (.inr (by rw [HEL.out.2, ← hj]; exact hjm)))
   have HT : Hid (mvTo x (k : Int) l = { n := x.n, N := upd x.N k a, I := upd x.I k b, O := upd x.O k c, m := x.m, T := upd x.T j ((2 * (k : Int) + 1) + 1) }) := by
    show _ = _
    obtain ⟨a1, a2, a3⟩ := HA.out
    unfold mvTo
    rw [if_pos HEL.out.1, HEL.out.2, ← hj, a1, a2, a3]
    rfl
   have HIF : Hid ((if j < x.m then (j : Int) else -1) = j) := if_pos hjm
   clear hj
   have hjI : (j : Int) < (x.m : Int) := by omega
   go_wp2_with fail
   refine (HIX.out _ HS7.out.st.bl).mono ?_
   rintro e w2 ⟨rfl, hb2⟩
   have HS8 := Lib.hid (HS7.out.below hb2)
   rw [HIF.out]
   clear hb2
   have hx8 := HS8.out.box.cell
   have htf := HS8.out.ts.free
   have htc := HS8.out.ts.cell1 hjm
   have hrc := HS8.out.st.res.cell
   have hrf := HS8.out.st.res.free
   have HS9 := Lib.hid (HS8.out.setTr j ((2 * (k : Int) + 1) + 1))
   have hm2 : w.heap.size + 1 + 1 ≠ g2 := by omega
   have hm8 : b8 ≠ g2 := HS8.out.d2
   go_wp2_with fail
   exact bodyPost_ret (v := .tuple #[.agg #[.slice (some ⟨g1, 0, none⟩) x.n c1, .slice (some ⟨g2, 0, none⟩) x.m c2], .bool true]) (by simp [results, Tryz.results83, go_sem, hrc, hm2]) rfl ⟨(HS9.out.done _ _).2, .inr ⟨_, _, HYES.out, rfl, by rw [HT.out]; exact (HS9.out.done _ _).1⟩⟩
  have t1 := tl_one e1
  have t2 := tl_one e2
  have HNE : Hid ((eB l || lB l) = false) := by
   show _ = _
   have h1 : eB l = false := decide_eq_false e1
   have h2 : lB l = false := decide_eq_false e2
   rw [h1, h2]; rfl
  have HYES : Hid (stepO x (k : Int) l = some (mvTo x (k : Int) l)) := stepO_yes (mvOk_yes HKL.out HJ5.out (.inl HNE.out))
  have HT : Hid (mvTo x (k : Int) l = { n := x.n, N := upd x.N k a, I := upd x.I k b, O := upd x.O k c, m := x.m, T := x.T }) := by
   show _ = _
   obtain ⟨a1, a2, a3⟩ := HA.out
   unfold mvTo
   rw [HNE.out, if_neg (by simp), a1, a2, a3]
   rfl
  have hrc := HS.out.st.res.cell
  have hrf := HS.out.st.res.free
  have hm2 : w.heap.size + 1 + 1 ≠ g1 := by omega
  have hm8 : b8 ≠ g1 := HS.out.d1
  clear e1 e2
  go_wp2_with fail
  exact bodyPost_ret (v := .tuple #[.agg #[.slice (some ⟨g1, 0, none⟩) x.n c1, .slice (some ⟨g2, 0, none⟩) x.m c2], .bool true]) (by simp [results, Tryz.results83, go_sem, hrc, hm2]) rfl ⟨(HS7.out.done _ _).2, .inr ⟨_, _, HYES.out, rfl, by rw [HT.out]; exact (HS7.out.done _ _).1⟩⟩
end Go.Proofs.YtlkdmpfifpkpaaaGreatDoor

