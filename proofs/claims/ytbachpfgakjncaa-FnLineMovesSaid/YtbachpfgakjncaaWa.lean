/-
  The program's LineWaits; the draw of a line that is sometimes done.
-/
import Derived.Test.YtbachpfgakjncaaVz
namespace Go.Proofs.Ytbachpfgakjncaa
open Go.RowKit

set_option linter.unusedSimpArgs false in
set_option maxHeartbeats 2000000 in
theorem lineWaits_at (bb bo cb tb tu ct : Nat) (x : Ln) (b : Nat) (w : World) (hv : vldL x = true) (hb : b ≤ x.n) (hbk : BkC w bb bo x.n x.N x.I x.O) (hic : IC w tb tu x.m x.T) :
    Calls Try.prog 43 #[.agg #[.slice (some ⟨bb, bo, none⟩) x.n cb, .slice (some ⟨tb, tu, none⟩) x.m ct], .int .i64 b] w fun e w' => e = .returned (.int .i64 (cntA x.T (2 * b) x.m)) ∧ Below w.heap.size w w' := by
  have hvl := vldL_true hv
  have hn5 : x.n ≤ 5 := hvl.2.1
  have hm5 : x.m ≤ 5 := hvl.2.2.1
  clear hvl
  have HBB : Hid (∀ a, Below w.heap.size w (w.alloc a)) := fun a => below_all _ _
  have HRW := Lib.hid (railway_at (cb := cb) (ct := ct) (by omega) (by omega) hbk hic)
  have HV := Lib.hid hv
  clear hbk hic hv
  go_enter Try.func43, Try.ntmps43
  go_wp2_with fail
  refine (HRW.out _ (HBB.out _)).mono ?_
  rintro e w1 ⟨hb1, h1⟩
  have HB1 := Lib.hid ((HBB.out _).trans (hb1.mono (by simp)))
  rcases h1 with ⟨_, s, rfl, r, gb, cb', gt, ct', rfl, hrw, k1, k2, k3⟩ | ⟨hv, _⟩
  · have HR := Lib.hid hrw
    have HCO : Hid (Calls Try.prog 73 #[.pointer (some ⟨r, 0, none⟩), .int .i64 (2 * b)] w1 fun e w' => e = .returned (.int .i64 (cntA x.T (2 * b) x.m)) ∧ w1 = w') := count_any r _ gt 0 x.m ct' x.T (2 * b) w1 (by omega) hrw.box hrw.ic
    have hrc := hrw.box.cell
    clear hrw k1 k2 k3 hb1
    have hbi : ¬ (x.n : Int) < (b : Int) := by omega
    go_wp2_with fail
    refine HCO.out.mono ?_
    rintro e w2 ⟨rfl, rfl⟩
    go_wp2_with fail
    go_ret
    exact ⟨rfl, HB1.out⟩
  · rw [HV.out] at hv
    cases hv
theorem LbM.waits {w wr : World} {b g1 c1 g2 c2 : Nat} {x : Ln} (h : LbM w wr b g1 c1 g2 c2 x) (hv : vldL x = true) (k : Nat) (hk : k ≤ x.n) : Calls Try.prog 43 #[.agg #[.slice (some ⟨g1, 0, none⟩) x.n c1, .slice (some ⟨g2, 0, none⟩) x.m c2], .int .i64 k] wr fun e w' => e = .returned (.int .i64 (cntA x.T (2 * k) x.m)) ∧ Below wr.heap.size wr w' :=
  lineWaits_at g1 0 c1 g2 0 c2 x k wr hv hk (BkC.of_own h.bs) (IC.of_own h.ts)
theorem fnL_le (x : Ln) : (fnL x).length ≤ 135 := by
  unfold fnL
  split
  · rename_i h
    have h1 := lefS_135 h
    have h2 := finL_len (lefS x x.n).toNat x
    unfold finX
    omega
  · simp
theorem rnO_fin {x : Ln} (hv : vldL x = true) : ∃ y, rnO x (mvM (fnL x)) (mvS (fnL x)) (fnL x).length = some y ∧ vldL y = true ∧ lefS y y.n = 0 ∧ y.n = x.n ∧ y.m = x.m := by
  obtain ⟨q, hq⟩ := lefS_nn x
  obtain ⟨h1, h2⟩ := fin_run q x hv hq
  obtain ⟨y, g1, g2, g3, _, g5, g6⟩ := h2 q (Nat.le_refl _)
  refine ⟨y, ?_, g2, by rw [g3]; simp, g5, g6⟩
  unfold rnO
  rw [if_pos hv, runO_all, show fnL x = finX x from if_pos hv]
  rw [← h1, List.take_length] at g1
  exact g1
theorem RdL.pickO {w w' : World} {g cap n s R : Nat} {t : TypeId} {f : Nat → Value} (h : Own w g cap n s t f) (hb : w.grownBy w' (some R)) (hg : R < g) : Own w' g cap n s t f := h.kept hb (by simp; omega)
set_option linter.unusedSimpArgs false in
set_option maxRecDepth 100000 in
set_option maxHeartbeats 2000000 in
theorem drawLDone_any (ao : Option Addr) (n c : Nat) (w : World) (hnc : n ≤ c) (hn : n ≤ 9223372036854775807) (hB : BSl w ao n) :
    Calls Try.prog 41 #[.slice ao n c] w (DrL w) := by
  have hbb : ∀ a, Below w.heap.size w (w.alloc a) := fun a => below_all w a
  have HBS := Lib.hid (fun a => hB.keep (hbb a))
  have HBB := Lib.hid hbb
  clear hB hbb
  go_enter Try.func41, Try.ntmps41
  go_wp2_with fail
  refine (open_any ao n c _ hn hnc (HBS.out _)).mono ?_
  rintro e w1 ⟨R, rfl, hR, hr1, hb1⟩
  rw [World.size_alloc] at hR hb1
  have HX1 := Lib.hid ((Bx.new w _ _).below hb1 (by omega))
  have HB1 := Lib.hid ((HBB.out _).trans (hb1.mono (by omega)))
  have HR1 := Lib.hid hr1
  have hz1 : w.heap.size + 1 ≤ w1.heap.size := by have := hb1.size; simpa using this
  have hlR := hr1.lt
  clear hb1 hr1
  go_wp2_with fail
  refine (l92Line_any R 0 _ (by omega) HR1.out).mono ?_
  rintro e w2 ⟨v, x, rfl, hl, hx1, hx2, hx3, hr2, hg2⟩
  have HL2 := Lib.hid hl
  have HB2 := Lib.hid (HB1.out.trans (below_of_grown hg2 (by omega) (by omega)))
  have HX2 := Lib.hid (HX1.out.kept hg2 (by omega))
  have HR2 := Lib.hid hr2
  have hz2 : w1.heap.size ≤ w2.heap.size := hg2.size
  have HG : Hid (∀ g1 c1 g2 c2, (Value.agg #[.slice (some ⟨g1, 0, none⟩) x.n c1, .slice (some ⟨g2, 0, none⟩) x.m c2]) = v → R < g1 ∧ R < g2) := by
    rintro g1 c1 g2 c2 rfl
    obtain ⟨_, _, _, _, e, _, _, _, a1, a2⟩ := hl
    cases e
    exact ⟨by omega, by omega⟩
  obtain ⟨g1, c1, g2, c2, rfl, _⟩ := hl
  obtain ⟨hg1, hg2'⟩ := HG.out g1 c1 g2 c2 rfl
  clear hg2 hr2 HX1 HR1 HG
  have HM3 : Hid (LbM w (w2.alloc (.cells #[.slice (some ⟨g1, 0, none⟩) x.n c1, .slice (some ⟨g2, 0, none⟩) x.m c2] 26)) w2.heap.size g1 c1 g2 c2 x) := LbM.new HB2.out HL2.out (by omega) (by omega)
  have HX3 : Hid (Bx (w2.alloc (.cells #[.slice (some ⟨g1, 0, none⟩) x.n c1, .slice (some ⟨g2, 0, none⟩) x.m c2] 26)) w.heap.size 26 #[.slice none 0 0, .slice none 0 0]) := HX2.out.alloc _
  have HR3 : Hid (RdL (w2.alloc (.cells #[.slice (some ⟨g1, 0, none⟩) x.n c1, .slice (some ⟨g2, 0, none⟩) x.m c2] 26)) R (0 + 30)) := HR2.out.alloc _
  have HO3 : Hid ((∃ z, LnO z (w2.alloc (.cells #[.slice (some ⟨g1, 0, none⟩) x.n c1, .slice (some ⟨g2, 0, none⟩) x.m c2] 26)) (.agg #[.slice (some ⟨g1, 0, none⟩) x.n c1, .slice (some ⟨g2, 0, none⟩) x.m c2]) x ∧ R < z)) := ⟨_, HL2.out.below (below_all _ _) (Nat.le_refl _), hlR⟩
  clear HX2 HR2 HL2 HB2
  go_wp2_with fail
  have hb4 : R < w2.heap.size := by omega
  have hb4r : w.heap.size < w2.heap.size := by omega
  generalize w2.alloc (.cells #[.slice (some ⟨g1, 0, none⟩) x.n c1, .slice (some ⟨g2, 0, none⟩) x.m c2] 26) = w3 at *
  generalize w2.heap.size = b4 at *
  have hbc := HM3.out.box.cell
  have HF := Lib.hid (specLineFinish_any g1 0 c1 g2 0 c2 x w3 (by omega) (by omega) HM3.out.bs.lt HM3.out.ts.lt (BkC.of_own HM3.out.bs) (IC.of_own HM3.out.ts))
  go_wp2_with fail
  refine HF.out.mono ?_
  rintro e w4 ⟨⟨v, g, rfl, hrow⟩, hb⟩
  have HM4 := Lib.hid (HM3.out.below hb)
  have HX4 := Lib.hid (HX3.out.below hb HX3.out.lt)
  have HR4 := Lib.hid (HR3.out.keep hb)
  have hl4 := HM3.out.box.lt
  have hz4 := hb.size
  rcases hrow with ⟨g, cm, e, rfl, hgz, how⟩ | ⟨h, _⟩
  rotate_left
  · cases h
  cases e
  have HO4 := Lib.hid how
  obtain ⟨z0, hz0⟩ : ∃ z0, z0 = w3.heap.size := ⟨_, rfl⟩
  rw [← hz0] at hgz hl4 hz4
  have HL4 : Hid (∃ z, LnO z w4 (.agg #[.slice (some ⟨g1, 0, none⟩) x.n c1, .slice (some ⟨g2, 0, none⟩) x.m c2]) x ∧ R < z) := by
    obtain ⟨z, h1, h2⟩ := HO3.out
    exact ⟨z, h1.below hb (Nat.le_refl _), h2⟩
  clear hb how hbc HM3 HX3 HR3 HO3 HF hz0
  have hbc := HM4.out.box.cell
  have hxc := HX4.out.cell
  have hxf := HX4.out.free
  cases hv : vldL x
  · clear hv
    go_wp2_with fail
    obtain ⟨z, hl, hz⟩ := HL4.out
    exact bodyPost_ret (v := .agg #[.slice (some ⟨g1, 0, none⟩) x.n c1, .slice (some ⟨g2, 0, none⟩) x.m c2]) (by simp [results, Try.results41, go_sem, hxc]) rfl ⟨_, x, rfl, ((hl.setOther (by omega) _).setOther (by omega) _).mono (by omega), hx1, hx2, hx3, (HM4.out.bl.setCell (Nat.le_refl _) _).setCell (Nat.le_refl _) _⟩
  obtain ⟨y, hy, _, _, hyn, hym⟩ := rnO_fin hv
  have HY := Lib.hid hy
  have hyn1 : 1 ≤ y.n ∧ y.n ≤ 4 ∧ y.m ≤ 5 := by omega
  have hml := fnL_le x
  clear hv hy hyn hym
  go_wp2_with fail
  refine (pickN_any R (0 + 30) 2 _ (by omega) (by omega) HR4.out).mono ?_
  rintro e w5 ⟨u, rfl, hu, hr5, hg5⟩
  have HX5 := Lib.hid (HX4.out.kept hg5 (by omega))
  have hzg : w4.heap.size ≤ w5.heap.size := hg5.size
  have HB5 := Lib.hid (HM4.out.bl.trans (below_of_grown hg5 (by omega) (by have := HM4.out.bl.size; omega)))
  have HO5 := Lib.hid (HO4.out.kept hg5 (by simp; omega))
  have HBS5 := Lib.hid (HM4.out.bs.kept hg5 (by simp; omega))
  have HTS5 := Lib.hid (HM4.out.ts.kept hg5 (by simp; omega))
  have HBX5 := Lib.hid (HM4.out.box.kept hg5 (by omega))
  have HD : Hid (g1 ≠ g2) := by
    obtain ⟨_, h, _⟩ := HL4.out
    obtain ⟨_, _, _, _, e, _, _, h, _⟩ := h
    cases e
    exact h
  clear hr5 hg5 HX4 HR4 HM4 HO4 HL4 hbc hxc hxf
  have hbc := HBX5.out.cell
  have hxc := HX5.out.cell
  have hxf := HX5.out.free
  by_cases hu0 : u = 0
  · subst hu0
    have HRN := Lib.hid (specLineRun_any g1 0 c1 g2 0 c2 g 0 (fnL x).length cm x (mvM (fnL x)) (mvS (fnL x)) w5 (by omega) (by omega) (by omega) (BkC.of_own HBS5.out) (IC.of_own HTS5.out) (MvsC.of_own HO5.out))
    go_wp2_with fail
    refine HRN.out.mono ?_
    rintro e w6 h6
    obtain ⟨v, rfl, hl6, hb6⟩ := h6.some HY.out
    have HL6 := Lib.hid hl6
    have HX6 := Lib.hid (HX5.out.below hb6 HX5.out.lt)
    have HB6 := Lib.hid (HB5.out.trans (hb6.mono HB5.out.size))
    have hl5 := HX5.out.lt
    obtain ⟨p1, e1, p2, e2, rfl, _⟩ := hl6
    clear hb6 h6 hbc hxc hxf
    have hxc := HX6.out.cell
    have hxf := HX6.out.free
    have hl6 := HX6.out.lt
    have hne : w6.heap.size ≠ w.heap.size := by omega
    go_wp2_with fail
    exact bodyPost_ret (v := .agg #[.slice (some ⟨p1, 0, none⟩) y.n e1, .slice (some ⟨p2, 0, none⟩) y.m e2]) (by simp [results, Try.results41, go_sem, hxc, hl6]) rfl ⟨_, y, rfl, (((HL6.out.setOther (by omega) _).setOther (by omega) _).below (below_all _ _) (Nat.le_refl _)).mono (by omega), hyn1.1, hyn1.2.1, hyn1.2.2, ((HB6.out.setCell (Nat.le_refl _) _).setCell (Nat.le_refl _) _).alloc (by simp; omega) _⟩
  · have hu1 : ((u : Int) == 0) = false := by simp; omega
    clear hu0
    go_wp2_with fail
    exact bodyPost_ret (v := .agg #[.slice (some ⟨g1, 0, none⟩) x.n c1, .slice (some ⟨g2, 0, none⟩) x.m c2]) (by simp [results, Try.results41, go_sem, hxc]) rfl ⟨_, x, rfl, ⟨g1, c1, g2, c2, rfl, (HBS5.out.setOther (by dsimp only; omega) _).setOther (by dsimp only; omega) _, (HTS5.out.setOther (by dsimp only; omega) _).setOther (by dsimp only; omega) _, HD.out, by omega, by omega⟩, hx1, hx2, hx3, (HB5.out.setCell (Nat.le_refl _) _).setCell (Nat.le_refl _) _⟩
end Go.Proofs.Ytbachpfgakjncaa
